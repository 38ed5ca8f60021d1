/- Part 20 of a proof of a statement about the given program: an abstract machine over the model, proved sound, and contracts of the functions that the statement reaches; the last part proves the statement, for every input, with no condition. -/
import Derived.Test.YtcfelhfcjdofoaaGreatDoorX17
import Derived.Test.YtcfelhfcjdofoaaGreatDoorX18
import Derived.Test.YtcfelhfcjdofoaaGreatDoorX15
import Derived.Test.YtcfelhfcjdofoaaGreatDoorX13
import Derived.Lib.ItoaNum
set_option autoImplicit false
set_option linter.unusedSimpArgs false
set_option linter.unusedVariables false
set_option maxHeartbeats 4000000
set_option maxRecDepth 20000
namespace Go.Ab
open Go.Proofs Go.Sort
structure BT where
 k:_root_.Fin 8
 n:_root_.Fin 8
 w:Bool
 deriving DecidableEq
def jK:BT:=⟨0,0,false⟩
instance:Inhabited BT:=⟨jK⟩
def BT.t (x:BT):Yn:=⟨(x.k.val:Nat),(x.n.val:Nat),x.w⟩
def fH (x:BT):AV:=uV x.t
def O9 (x:BT):List Value:=[.int .i64 (x.k.val:Nat),.int .i64 (x.n.val:Nat),.bool x.w]
theorem dM (ids:List Id) (x:BT):fE ids (fH x)=true:=rfl
theorem abh (x y:AV):x.put [] y=y:=by cases x <;> rfl
theorem jr (a:Id->Id) (x:BT):ren a (fH x)=fH x:=bP (λq=>by match q with | 0 | 1 | 2 | q+3=>rfl)
theorem XB (x:BT):Es T aJ 5 (fH x)=some (O9 x):=rfl
theorem aaK:aa2 T aJ 134 3 fH O9 where
 len _:=rfl
 one x v hv:=by simp [O9]at hv;rcases hv with rfl | rfl | rfl <;> rfl
 rep I ρ x:=(N7 (XB x)).1 I ρ
 uni I ρ x cs h:=(N7 (XB x)).2 I ρ cs h
 fits x:=rfl
 pack x:=rfl
 size:=rfl
 pos:=by decide
def Il (x y:BT):Int:=if x.k≠y.k then (x.k.val:Int) - y.k.val else (x.n.val:Int) - y.n.val
theorem X7 (x y:BT):AC Tryz.prog T aJ 222 [fH x,fH y] [] (.int (Il x y)) []:=by
 refine aX Tryz.func222 ?_;refine sg rfl (sq (sq (rg [] rfl ?_)));refine cd rfl (λb=>?_) (λb=>?_)
 ·(have c:x.k≠y.k:=by intro e;have a:(((x.k.val:Nat):Int) != ((y.k.val:Nat):Int))=true:=b;rw [e]at a;simp at a);refine sg rfl (rX ?_);refine bC hT (by rfl) ?_;rw [Il,aaI c];show IntKind.i64.wrap (((x.k.val:Nat):Int) - ((y.k.val:Nat):Int))=_;exact bK (by omega) (by omega)
 (have he:x.k=y.k:=by have a:(((x.k.val:Nat):Int) != ((y.k.val:Nat):Int))=false:=b;simp at a;omega);refine sk (sq (rg [] rfl ?_));refine rX ?_;refine bC hT (by rfl) ?_;rw [Il,Y0 (λh=>h he)];show IntKind.i64.wrap (((x.n.val:Nat):Int) - ((y.n.val:Nat):Int))=_;exact bK (by omega) (by omega)
theorem BP (x y:BT):Go.Proofs.ltOf Il x y=decide (x.k.val<y.k.val\/x.k.val=y.k.val/\x.n.val<y.n.val):=by
 unfold Go.Proofs.ltOf;apply decide_eq_decide.2;simp only [Il];grind
theorem LU:SWO (Go.Proofs.ltOf Il) where
 irrefl x:=by rw [BP];simp
 trans x y z h1 h2:=by rw [BP]at *;simp at *;omega
 ntrans x y z h1 h2:=by rw [BP]at *;simp at *;omega
def zF (l:List BT):Ob:=dw 134 fH default l
def jh (l:List BT):List BT:=iY Il l
theorem UK (l:List BT) (hl:l.length<4611686018427387904):AC Tryz.prog T aJ 221 [.own (.b 0) l.length 0 l.length none,.clo 222 []] [zF l] (.tup []) [zF (jh l)] :=
 Vr hT Tryz.laySortA aaK Tryz.isAgg134 Tryz.sizeOf134 LU (enters_of Tryz.func222 rfl rfl) X7 ⟨_,Tryz.func221,rfl,rfl⟩ l hl
theorem KZ (f g:BT):(f==g)=(((f.k.val:Nat):Int)==((g.k.val:Nat):Int)&&(((f.n.val:Nat):Int)==((g.n.val:Nat):Int)&&(f.w==g.w&&true))):=by
 obtain ⟨a,b,c⟩:=f;obtain ⟨i,j,l⟩:=g;rw [abT];simp [BT.mk.injEq,_root_.Fin.ext_iff];exact ⟨λ⟨e,h,d⟩=>⟨by omega,by omega,d⟩,λ⟨e,h,d⟩=>⟨by omega,by omega,d⟩⟩
theorem Ox (l:List BT):AC Tryz.prog T aJ 223 [.own (.b 0) l.length 0 l.length none] [dw 134 fH jK l] (.own (.b 0) l.length 0 (dd jK l l.length).length none) [.cells ⟨134,l.length,λj=>bif Nat.blt j (dd jK l l.length).length then fH ((dd jK l l.length).getD j jK)else (T 134).zero,0⟩]:=by
 refine aX Tryz.func223 ?_;refine WP.ownlen 0 rfl rfl rfl (λhl=>?_);refine sg rfl (sq (sq (rg [] rfl ?_)));refine cd rfl (λv=>?_) (λv=>?_)
 ·refine sg rfl (rX ?_);have e:dd jK l l.length=l:=Bj jK (λj h0 w=>by simp at v;omega);rw [e];exact aH hT [] (ts:=[(2,.own (.b 0) l.length 0 l.length none)]) trivial ⟨⟨rfl,_,rfl,ah rfl⟩,tt⟩ ⟨⟨λ_ _=>Gw (enc:=fH) (d:=jK) (λ_=>dM _ _) rfl _,.inl ⟨_,rfl,_,_,rfl,aa1 _,abr _,abr _,λq r=>ah (oQ (show q<l.length from r) _ _).symm⟩⟩,tt⟩ rfl rfl rfl
 refine sk (sq (sq (rg [] rfl ?_)));refine bk (WP.loop (α:=Nat) (λi=>aN [(0,.own (.b 0) l.length 0 l.length none),(3,.int i)] [(.b 0,dw 134 fH jK l)]) (λi=>1<=i/\i<=l.length /\ ∀ j,0<j->j<i->l.getD j jK≠l.getD (j - 1) jK) (λi=>l.length - i) ?_ ?_);{refine ⟨1,?_,?_⟩;{exact ⟨aa1 _,by simp at v;omega,λj v h2=>by omega⟩};refine eX cX ⟨obs rfl,tt⟩};rintro i ⟨a0,hi,hn⟩;refine sq (sq (rg [] rfl ?_));refine cd rfl (λh4=>?_) (λh4=>?_);{(have o:i<l.length:=by simpa using h4);have e1:=wM a0 (show i<2 ^ 63 by omega);have e2:=bK (n:=(i:Int) - 1) (by omega) (by omega);refine sk (sq (bk (sq (drs [] rfl ?_ ?_))));{simp [ay,under,e2];omega};refine cd rfl (λh6=>?_) (λh6=>?_);{(have s:l.getD i jK=l.getD (i - 1) jK:=by have e:(l.getD i jK==l.getD (IntKind.i64.wrap ((i:Int) - 1)).toNat jK)=true:=(KZ _ _).trans h6;rw [e1]at e;simpa using e);refine sg rfl (sq (sq (rg [] rfl ?_)));refine bk (WP.loop (α:=List BT×Nat×Nat) (λ(⟨c,i2,k⟩:List BT×Nat×Nat)=>aN [(0,.own (.b 0) l.length 0 l.length none),(3,.int i2),(4,.own (.b 0) l.length i (l.length - i) none),(5,.int k)] [(.b 0,.cells ⟨134,l.length,λj=>fH (c.getD j jK),0⟩)]) (λ(⟨c,i2,k⟩:List BT×Nat×Nat)=>c.length=l.length/\1<=k/\i+k<=l.length/\c.take i2=dd jK l (i+k)/\i2=(dd jK l (i+k)).length/\i2<i+k /\ ∀ j,i+k<=j+1->c.getD j jK=l.getD j jK) (λ(⟨c,i2,k⟩:List BT×Nat×Nat)=>l.length - k) ?_ ?_);{refine ⟨(l,i,1),?_,?_⟩;{have e:=Fp jK (by omega) s;have e':=Lj jK l i (by omega) hn;refine ⟨rfl,aa1 _,by omega,by rw [e,e'],by rw [e,e',ab7];omega,by omega,λj w=>rfl⟩};refine eX cX ⟨obs rfl,tt⟩};rintro ⟨c,i2,k⟩ ⟨hc,a6,hk,g,f,t,a⟩;refine sq (sq (rg [] rfl ?_));refine cd rfl (λh9=>?_) (λh9=>?_);{(have u:i+k<l.length:=by simp at h9;omega);have e3:=wM a6 (show k<2 ^ 63 by omega);have e4:=bK (n:=(k:Int) - 1) (by omega) (by omega);have r1:=a (i+k) (by omega);have r2:=a (i+k - 1) (by omega);(have e5:k - 1+i=i+k - 1:=by omega);(have y:k+i=i+k:=by omega);(have a8:c.getD (k+i) jK=l.getD (i+k) jK:=by rw [y];exact r1);refine sk (sq (bk (sq (drs [] rfl ?_ ?_))));{simp [ay,under,e4];omega};refine cd rfl (λm=>?_) (λm=>?_);{(have p:l.getD (i+k) jK≠l.getD (i+k - 1) jK:=by have e:(!(c.getD (k+i) jK==c.getD ((IntKind.i64.wrap ((k:Int) - 1)).toNat+i) jK))=true:=(ab5 Bool.not (KZ _ _)).trans m;rw [e3,e5,y,r1,r2]at e;simpa using e);refine sq (rgs [] rfl ?_ ?_);{simp [ay,under];omega};refine rg [] rfl (rg [] rfl ?_);refine ⟨(c.set i2 (c.getD (k+i) jK),i2+1,k+1),?_,?_,?_⟩;{have em:=Sl jK p;refine ⟨by simpa using hc,by omega,by omega,?_,by rw [<- acA,em];simp;omega,by omega,λj w=>?_⟩;{rw [<- acA,em,a8,<- g];(have h2:i2<c.length:=by omega);apply adS;intro q;rw [acE,List.getElem?_append,ab7,ada (Nat.le_of_lt h2),acE];rcases Nat.lt_trichotomy q i2 with h | h | h;{rw [aaI (by omega),aaI h,aaI h,adr (by omega)]};{subst h;simp [h2]};rw [Y0 (by omega),Y0 (by omega)];simp [show q - i2≠0 by omega]};simp only [aaS];rw [adr (by omega)];have:=a j (by omega);simpa using this};{refine eX cX ⟨⟨λ_ _=>rfl,.inl ⟨_,rfl,_,_,rfl,aa1 _,by first | exact abr _ | omega,by first | exact abr _ | omega,λq r=>?_⟩⟩,tt⟩;exact ah (Md (enc:=fH) (d:=jK) (l:=c) (i:=i2) (x:=c.getD (k+i) jK) (by omega) (by rw [abh];rfl) q)};(try simp only []);first | omega | grind};(have a5:l.getD (i+k) jK=l.getD (i+k - 1) jK:=by have e:(!(c.getD (k+i) jK==c.getD ((IntKind.i64.wrap ((k:Int) - 1)).toNat+i) jK))=false:=(ab5 Bool.not (KZ _ _)).trans m;rw [e3,e5,y,r1,r2]at e;simpa using e);refine sk (rg [] rfl ?_);refine ⟨(c,i2,k+1),?_,?_,?_⟩;{have em:=Fp jK (l:=l) (k:=i+k) (by omega) a5;exact ⟨hc,by omega,by omega,by rw [<- acA,em];exact g,by rw [<- acA,em];exact f,by omega,λj w=>a j (by omega)⟩};{refine eX cX ⟨obs rfl,tt⟩};(try simp only []);first | omega | grind};(have u:i+k=l.length:=by simp at h9;omega);rw [u]at g f t;refine xt (sq (rgs [] rfl ?_ ?_));{simp [ay,under,qC,tX,capEq];omega};refine sq (rgs [] rfl ?_ ?_);{simp [ay,under,qC,tX,capEq];omega};refine rX ?_;refine aH hT [] (ts:=[(2,.own (.b 0) l.length 0 (dd jK l l.length).length none)]) trivial ⟨⟨rfl,_,rfl,ah ?_⟩,tt⟩ ⟨⟨λ_ _=>Gw (enc:=fH) (d:=jK) (λ_=>dM _ _) rfl _,.inl ⟨_,rfl,_,_,rfl,aa1 _,abr _,abr _,λq r=>ah ?_⟩⟩,tt⟩ rfl rfl rfl;{rw [<- f];rfl};simp only [ab1];exact OD jK (enc:=fH) (z:=(T 134).zero) g f (by omega) q r};(have p:l.getD i jK≠l.getD (i - 1) jK:=by have e:(l.getD i jK==l.getD (IntKind.i64.wrap ((i:Int) - 1)).toNat jK)=false:=(KZ _ _).trans h6;rw [e1]at e;simpa using e);refine sk (rg [] rfl ?_);refine ⟨i+1,?_,?_,?_⟩;{refine ⟨by omega,o,λj h0 w=>?_⟩;rcases acf j i with h | h;{exact hn j h0 h};(obtain rfl:j=i:=by omega);exact p};{refine eX cX ⟨obs rfl,tt⟩};(try simp only []);first | omega | grind};refine xt (sq (rg [] rfl ?_));refine rX ?_;(have o:i=l.length:=by simp at h4;omega);subst o;have e:dd jK l l.length=l:=Bj jK hn;rw [e];exact aH hT [] (ts:=[(2,.own (.b 0) l.length 0 l.length none)]) trivial ⟨⟨rfl,_,rfl,ah rfl⟩,tt⟩ ⟨⟨λ_ _=>Gw (enc:=fH) (d:=jK) (λ_=>dM _ _) rfl _,.inl ⟨_,rfl,_,_,rfl,aa1 _,abr _,abr _,λq r=>ah (oQ (show q<l.length from r) _ _).symm⟩⟩,tt⟩ rfl rfl rfl
open Go.Proofs
def bt (k n:Int) (w:Bool):BT:=⟨_root_.Fin.ofNat 8 k.toNat,_root_.Fin.ofNat 8 n.toNat,w⟩
theorem abX {k n:Int} {w:Bool} (hk:0<=k/\k<8) (hn:0<=n/\n<8):(bt k n w).t=⟨k,n,w⟩:=by
 simp only [bt,BT.t,_root_.Fin.ofNat,Yn.mk.injEq,and_true];refine ⟨?_,?_⟩ <;> omega
def sU (l:List BT):List Ob:=[.cells ⟨195,1,λ_ => .own (.b 1) l.length 0 l.length none,0⟩,dw 134 fH jK l]
theorem Uz (k n:Int) (w:Bool):(AV.agg 134 3 λq=>bif Nat.beq q 2 then .bool w else bif Nat.beq q 1 then .int n else bif Nat.beq q 0 then .int k else [AV.int 0,AV.int 0,AV.bool false].getD q .bad)=uV ⟨k,n,w⟩:=bP (λq=>by match q with | 0 | 1 | 2 | q+3=>rfl)
theorem aar (l:List BT) (k n:Int) (w:Bool) (hl:l.length<=100) (hk:0<=k/\k<8) (hn:0<=n/\n<8):AC Tryz.prog T aJ 219 [.int k,.int n,.bool w,.ptr (.b 0) 1 0 []] [.cells ⟨195,1,λ_ => .own (.b 1) l.length 0 l.length none,0⟩,dw 134 fH jK l] (.tup []) [.cells ⟨195,1,λ_ => .own (.b 1) (l++[bt k n w]).length 0 (l++[bt k n w]).length none,0⟩,dw 134 fH jK (l++[bt k n w])]:=by
 refine aX Tryz.func219 ?_;refine rgs [] rfl ?_ ?_
 ·have a:(T 134).bytes=24:=rfl;simp [ay,under,a];omega
 change Fin ..;refine aH hT [] (ts:=[]) (l:=[]) trivial trivial ⟨obs rfl (hg:=q0 (ah (by rw [bZ];rfl))),dJ (dM _) rfl rfl (by rw [bZ]) rfl rfl (CU (z:=(T 134).zero) rfl (by rw [fH,abX hk hn];exact Uz k n w) (λq c=>rfl)),tt⟩ rfl rfl rfl
def jP (l:List zf):List BT:=l.map λc=>bt 3 c.chan true
theorem EF {l:List zf} {k:Nat} (hk:k<l.length):jP (l.take k)++[bt 3 (l.getD k EG).chan true]=jP (l.take (k+1)):=by
 rw [ac7,aaF hk,jP,jP,adP];simp [hk]
def iD (p:aj) (s:bW) (g:Int):List BT:=[bt 5 g true] ++
 (if (aU p s g).op=50 then [bt 1 (aU p s g).b false]else if (aU p s g).op=54 then [bt 1 (aU p s g).a false]else if (aU p s g).op=51 then [bt 1 (aU p s g).a true]else
 if (aU p s g).op=52 then [bt 1 (aU p s g).b true]else if (aU p s g).op=53 then [bt 1 (aU p s g).b true]else if (aU p s g).op=55 then [bt 2 (aU p s g).a true]else if (aU p s g).op=56 then [bt 2 (aU p s g).a true]else
 if (aU p s g).op=57 then [bt 2 (aU p s g).b true]else if (aU p s g).op=58 then [bt 3 (aU p s g).a true]else if (aU p s g).op=60 then [bt 3 (aU p s g).a true]else if (aU p s g).op=66 then [bt 3 (aU p s g).a true]else
 if (aU p s g).op=59 then [bt 3 (aU p s g).b true]else if (aU p s g).op=61 then jP (bJ p s g).cases else
 if (aU p s g).op=62 then [bt 4 0 true]++(if s.count<6 then [bt 5 s.count true]else [])else
 if (aU p s g).op=63 then [bt 4 0 false]++(if jB s g (bg (goI s g) (aU p s g).a)then [bt 5 (bg (goI s g) (aU p s g).a) false]else [])else
 if (aU p s g).op=65 then [bt 6 0 true]else [])
def dU (p:aj) (s:bW) (g:Int):List BT:=dd jK (jh (iD p s g)) (jh (iD p s g)).length
theorem eH.rng {p:aj} {s:bW} {g:Int} (h:eH p s g):((aU p s g).op=50\/(aU p s g).op=52\/(aU p s g).op=53\/(aU p s g).op=57\/(aU p s g).op=59->0<=(aU p s g).b/\(aU p s g).b<8) /\
 ((aU p s g).op=54\/(aU p s g).op=51\/(aU p s g).op=55\/(aU p s g).op=56\/(aU p s g).op=58\/(aU p s g).op=60\/(aU p s g).op=66->0<=(aU p s g).a/\(aU p s g).a<8):=by
 have hp:=h.prog;have f:=hp.vars;have hl:=hp.locks;have hc:=hp.chans
 have d:=h.at
 have hi:(aU p s g).op≠66->C9 p (bM p (goI s g)) (aU p s g):=λe=>by rw [d.ins e];exact h.ins
 constructor
 ·intro e;have hi:=hi (by omega)
  rcases e with e | e | e | e | e
  ·have:=(hi.load e).2;unfold aZ at this;omega
  ·have:=(hi.bump e).2.1;unfold aZ at this;omega
  ·have:=(hi.cas e).2.1;unfold aZ at this;omega
  ·have:=(hi.try_ e).2;omega
  ·have:=(hi.recv e).2.1;unfold aZ at this;omega
 ·intro e;by_cases c:(aU p s g).op=66
  ·have:=d.send (.inr (.inr c));unfold aZ at this;omega
  have hi:=hi c;rcases e with e | e | e | e | e | e | e
  ·have:=(hi.store (.inr e)).2;unfold aZ at this;omega
  ·have:=(hi.store (.inl e)).2;unfold aZ at this;omega
  ·have:=hi.lock (.inl e);omega
  ·have:=hi.lock (.inr e);omega
  ·have:=(hi.send e).1;unfold aZ at this;omega
  ·have:=hi.close e;unfold aZ at this;omega
  ·exact absurd e c
theorem MX {p:aj} {s:bW} {g:Int} (h:eH p s g):(iD p s g).length<=5:=by
 have f:(aU p s g).op=61->(jP (bJ p s g).cases).length<=4:=λe=>by rw [jP,acK];exact (h.sel e).2.len.2
 have one:∀ x:BT,[x].length<=4:=λx=>by simp
 have hb:∀ l:List BT,l.length<=4->([bt 5 g true]++l).length<=5:=λl h=>by simp;omega
 refine hb _ ?_;have d:∀ (c:Prop) [Decidable c] (a b:List BT),(c->a.length<=4)->b.length<=4->(if c then a else b).length<=4:=λc _ a b i j=>by by_cases h:c;rw [aaI h];exact i h;rw [Y0 h];exact j
 refine d _ _ _ (λ_=>one _) <| d _ _ _ (λ_=>one _) <| d _ _ _ (λ_=>one _) <| d _ _ _ (λ_=>one _) <| d _ _ _ (λ_=>one _) <| d _ _ _ (λ_=>one _) <| d _ _ _ (λ_=>one _) <| d _ _ _ (λ_=>one _) <| d _ _ _ (λ_=>one _) <| d _ _ _ (λ_=>one _) <| d _ _ _ (λ_=>one _) <| d _ _ _ (λ_=>one _) <|
  d _ _ _ f <| d _ _ _ (λ_=>?_) <| d _ _ _ (λ_=>?_) <| d _ _ _ (λ_=>one _) (by simp)
 ·split <;> simp
 split <;> simp
def aas (l:List BT):List Ob:=[.cells ⟨195,1,λ_ => .own (.s 99 0) l.length 0 l.length none,0⟩,dw 134 fH jK l]
theorem BF (l:List BT) (k n:Int) (w:Bool) (hl:l.length<=100) (hk:0<=k/\k<8) (hn:0<=n/\n<8):AC Tryz.prog T aJ 219 [.int k,.int n,.bool w,.ptr (.b 0) 1 0 []] (List.map (fK (sig [.s 7 0,.s 99 0] 0)) (aas l)) (.tup []) (sU (l++[bt k n w])):=by
 have e:List.map (fK (sig [.s 7 0,.s 99 0] 0)) (aas l)=sU l:=by show [_,fK _ (dw 134 fH jK l)]=_;rw [jU (jr _)];rfl
 rw [e];exact aar l k n w hl hk hn
theorem QE (l:List BT) (hl:l.length<4611686018427387904):AC Tryz.prog T aJ 221 [.own (.b 0) l.length 0 l.length none,.clo 222 []] (List.map (fK (sig [.s 99 0] 0)) [dw 134 fH jK l]) (.tup []) [zF (jh l)]:=by
 have e:List.map (fK (sig [.s 99 0] 0)) [dw 134 fH jK l]=[zF l]:=by show [fK _ (dw 134 fH jK l)]=_;rw [jU (jr _)];rfl
 rw [e];exact UK l hl
def ddO (l:List BT):Ob := .cells ⟨134,l.length,λj=>bif Nat.blt j (dd jK l l.length).length then fH ((dd jK l l.length).getD j jK)else (T 134).zero,0⟩
theorem Lm (l:List BT):AC Tryz.prog T aJ 223 [.own (.b 0) l.length 0 l.length none] (List.map (fK (sig [.s 99 0] 0)) [dw 134 fH jK l]) (.own (.b 0) l.length 0 (dd jK l l.length).length none) [ddO l]:=by
 have e:List.map (fK (sig [.s 99 0] 0)) [dw 134 fH jK l]=[dw 134 fH jK l]:=by show [fK _ (dw 134 fH jK l)]=_;rw [jU (jr _)]
 rw [e];exact Ox l
theorem aaQ (ids:List Id) (l:List BT):okO ids (ddO l):=λi _=>by
 show fE ids (bif _ then _ else _)=true;exact Gw (enc:=fH) (d:=jK) (λ_=>dM _ _) rfl _
theorem Vm (p:aj) (s:bW) (g:Int) (h:eH p s g):AC Tryz.prog T aJ 160 [ak p,encS s,.int g] [] (rowP 134 fH jK (dU p s g)) []:=by
 refine aX Tryz.func160 ?_;have h6:=h.pos;have e2:=h.prog.chans;have e3:=h.valid.2.1;have j:=h.rng;have d3:=h.at;have d:∀ l:List BT,kU [.s 7 0,.s 99 0] [.cells ⟨195,1,λ_ => .own (.s 99 0) l.length 0 l.length none,0⟩,dw 134 fH jK l]:=λl=>⟨λ_ _=>rfl,λ_ _=>rfl,tt⟩;have f:∀ l:List BT,kU (bs 2) (sU l):=λl=>⟨λ_ _=>rfl,λ_ _=>rfl,tt⟩;have i:∀ k n:Int,∀ w:Bool,0<=k/\k<8->0<=n/\n<8->AC Tryz.prog T aJ 219 [.int k,.int n,.bool w,.ptr (.b 0) 1 0 []] (List.map (fK (sig [.s 7 0,.s 99 0] 0)) (aas [bt 5 g true])) (.tup []) (sU ([bt 5 g true]++[bt k n w])):=λk n w a b=>BF [bt 5 g true] k n w (by simp) a b;refine sg rfl (sq ?_);refine WP.ent (st':=aN [(3,.rp 26 (ak p)),(4,.rp 62 (encS s)),(2,.int g)] []) (em [(.s 3 0,1),(.s 4 0,1)] ⟨sF,sF,tt⟩ ⟨rq,rq,cq,tt⟩ trivial) ?_;refine rg [] rfl (sg rfl ?_);refine sq (wE [(2,.int g),(3,.rp 26 (ak p)),(4,.rp 62 (encS s)),(7,.ptr (.s 7 0) 1 0 []),(8,.clo 219 [.ptr (.s 7 0) 1 0 []])] [(.s 7 0,.cells ⟨195,1,λ_ => .own (.s 99 0) 0 0 0 none,0⟩),(.s 99 0,dw 134 fH jK [])] ⟨obs rfl (hg:=q0 gB),⟨λ_ _=>rfl,.inr ⟨rfl,134,_,rfl,by decide⟩⟩,tt⟩ ?_);refine rgs [⟨true,[.s 7 0,.s 99 0],.tup [],sU [bt 5 g true]⟩] rfl ?_ ?_
 ·have c:=BF [] 5 g true (by simp) (by omega) (by omega);have z0:=d [];have z1:=f [bt 5 g true];exact au
 refine sq (wE [(2,.int g),(3,.rp 26 (ak p)),(4,.rp 62 (encS s)),(7,.ptr (.s 7 0) 1 0 []),(8,.clo 219 [.ptr (.s 7 0) 1 0 []])] [(.s 7 0,.cells ⟨195,1,λ_ => .own (.s 99 0) 1 0 1 none,0⟩),(.s 99 0,dw 134 fH jK [bt 5 g true])] ⟨obs rfl,dJ (dM _) rfl rfl rfl rfl rfl (λq c=>jr _ _),tt⟩ ?_);refine rgs [CG.pure (aT (aU p s g))] rfl ?_ ?_
 ·have c:=SA p s g h;exact au
 refine WP.seqJ (α:=List BT) (λl=>aN [(7,.ptr (.s 7 0) 1 0 [])] [(.s 7 0,.cells ⟨195,1,λ_ => .own (.s 99 0) l.length 0 l.length none,0⟩),(.s 99 0,dw 134 fH jK l)]) (λl=>l=iD p s g) ?_ ?_
 ·refine sq (wQ [(.s 9 0,1)] [(2,.int g),(3,.rp 26 (ak p)),(4,.rp 62 (encS s)),(7,.ptr (.s 7 0) 1 0 []),(8,.clo 219 [.ptr (.s 7 0) 1 0 []]),(9,.rp 120 (aT (aU p s g)))] [(.s 7 0,.cells ⟨195,1,λ_ => .own (.s 99 0) 1 0 1 none,0⟩),(.s 99 0,dw 134 fH jK [bt 5 g true])] ⟨obs rfl,dJ (dM _) rfl rfl rfl rfl rfl (λq c=>rfl),tt⟩ ?_);refine rg [] rfl (bk (sq (rg [] rfl ?_)));refine cd rfl (λh6=>?_) (λh6=>?_);{(have e:(aU p s g).op=50:=by simpa using h6);have hx:=j.1 (by omega);refine rgs [⟨true,[.s 7 0,.s 99 0],.tup [],sU ([bt 5 g true]++[bt 1 (aU p s g).b false])⟩] rfl ?_ ?_;{have c:=i 1 (aU p s g).b false (by omega) hx;have z0:=d [bt 5 g true];have z1:=f ([bt 5 g true]++[bt 1 (aU p s g).b false]);exact au};refine ⟨[bt 5 g true]++[bt 1 (aU p s g).b false],?_,?_⟩;{simp [iD,e]};refine eX cX ⟨obs rfl,dJ (dM _) rfl rfl rfl rfl rfl (λq c=>jr _ _),tt⟩};(have b6:(aU p s g).op≠50:=by simpa using h6);refine sg rfl (cd rfl (λh8=>?_) (λh8=>?_));{(have e:(aU p s g).op=54:=by simpa using h8);have hx:=j.2 (by omega);refine rgs [⟨true,[.s 7 0,.s 99 0],.tup [],sU ([bt 5 g true]++[bt 1 (aU p s g).a false])⟩] rfl ?_ ?_;{have c:=i 1 (aU p s g).a false (by omega) hx;have z0:=d [bt 5 g true];have z1:=f ([bt 5 g true]++[bt 1 (aU p s g).a false]);exact au};refine ⟨[bt 5 g true]++[bt 1 (aU p s g).a false],?_,?_⟩;{simp [iD,e]};refine eX cX ⟨obs rfl,dJ (dM _) rfl rfl rfl rfl rfl (λq c=>jr _ _),tt⟩};(have c0:(aU p s g).op≠54:=by simpa using h8);refine sg rfl (cd rfl (λx=>?_) (λx=>?_));{(have e:(aU p s g).op=51:=by simpa using x);have hx:=j.2 (by omega);refine rgs [⟨true,[.s 7 0,.s 99 0],.tup [],sU ([bt 5 g true]++[bt 1 (aU p s g).a true])⟩] rfl ?_ ?_;{have c:=i 1 (aU p s g).a true (by omega) hx;have z0:=d [bt 5 g true];have z1:=f ([bt 5 g true]++[bt 1 (aU p s g).a true]);exact au};refine ⟨[bt 5 g true]++[bt 1 (aU p s g).a true],?_,?_⟩;{simp [iD,e]};refine eX cX ⟨obs rfl,dJ (dM _) rfl rfl rfl rfl rfl (λq c=>jr _ _),tt⟩};(have b7:(aU p s g).op≠51:=by simpa using x);refine sq (sq (rg [] rfl ?_));refine cd rfl (λm=>?_) (λm=>?_);{(have e:(aU p s g).op=52:=by simpa using m);have hx:=j.1 (by omega);refine sk (cd rfl (λm=>?_) (λm=>?_));{refine rgs [⟨true,[.s 7 0,.s 99 0],.tup [],sU ([bt 5 g true]++[bt 1 (aU p s g).b true])⟩] rfl ?_ ?_;{have c:=i 1 (aU p s g).b true (by omega) hx;have z0:=d [bt 5 g true];have z1:=f ([bt 5 g true]++[bt 1 (aU p s g).b true]);exact au};refine ⟨[bt 5 g true]++[bt 1 (aU p s g).b true],?_,?_⟩;{simp [iD,e]};refine eX cX ⟨obs rfl,dJ (dM _) rfl rfl rfl rfl rfl (λq c=>jr _ _),tt⟩};simp_all};(have b8:(aU p s g).op≠52:=by simpa using m);refine rg [] rfl (cd rfl (λy=>?_) (λy=>?_));{(have e:(aU p s g).op=53:=by simpa using y);have hx:=j.1 (by omega);refine rgs [⟨true,[.s 7 0,.s 99 0],.tup [],sU ([bt 5 g true]++[bt 1 (aU p s g).b true])⟩] rfl ?_ ?_;{have c:=i 1 (aU p s g).b true (by omega) hx;have z0:=d [bt 5 g true];have z1:=f ([bt 5 g true]++[bt 1 (aU p s g).b true]);exact au};refine ⟨[bt 5 g true]++[bt 1 (aU p s g).b true],?_,?_⟩;{simp [iD,e]};refine eX cX ⟨obs rfl,dJ (dM _) rfl rfl rfl rfl rfl (λq c=>jr _ _),tt⟩};(have b9:(aU p s g).op≠53:=by simpa using y);refine sq (sq (rg [] rfl ?_));refine cd rfl (λo=>?_) (λo=>?_);{(have e:(aU p s g).op=55:=by simpa using o);have hx:=j.2 (by omega);refine sk (cd rfl (λo=>?_) (λo=>?_));{refine rgs [⟨true,[.s 7 0,.s 99 0],.tup [],sU ([bt 5 g true]++[bt 2 (aU p s g).a true])⟩] rfl ?_ ?_;{have c:=i 2 (aU p s g).a true (by omega) hx;have z0:=d [bt 5 g true];have z1:=f ([bt 5 g true]++[bt 2 (aU p s g).a true]);exact au};refine ⟨[bt 5 g true]++[bt 2 (aU p s g).a true],?_,?_⟩;{simp [iD,e]};refine eX cX ⟨obs rfl,dJ (dM _) rfl rfl rfl rfl rfl (λq c=>jr _ _),tt⟩};simp_all};(have c1:(aU p s g).op≠55:=by simpa using o);refine rg [] rfl (cd rfl (λz=>?_) (λz=>?_));{(have e:(aU p s g).op=56:=by simpa using z);have hx:=j.2 (by omega);refine rgs [⟨true,[.s 7 0,.s 99 0],.tup [],sU ([bt 5 g true]++[bt 2 (aU p s g).a true])⟩] rfl ?_ ?_;{have c:=i 2 (aU p s g).a true (by omega) hx;have z0:=d [bt 5 g true];have z1:=f ([bt 5 g true]++[bt 2 (aU p s g).a true]);exact au};refine ⟨[bt 5 g true]++[bt 2 (aU p s g).a true],?_,?_⟩;{simp [iD,e]};refine eX cX ⟨obs rfl,dJ (dM _) rfl rfl rfl rfl rfl (λq c=>jr _ _),tt⟩};(have c2:(aU p s g).op≠56:=by simpa using z);refine sg rfl (cd rfl (λa0=>?_) (λa0=>?_));{(have e:(aU p s g).op=57:=by simpa using a0);have hx:=j.1 (by omega);refine rgs [⟨true,[.s 7 0,.s 99 0],.tup [],sU ([bt 5 g true]++[bt 2 (aU p s g).b true])⟩] rfl ?_ ?_;{have c:=i 2 (aU p s g).b true (by omega) hx;have z0:=d [bt 5 g true];have z1:=f ([bt 5 g true]++[bt 2 (aU p s g).b true]);exact au};refine ⟨[bt 5 g true]++[bt 2 (aU p s g).b true],?_,?_⟩;{simp [iD,e]};refine eX cX ⟨obs rfl,dJ (dM _) rfl rfl rfl rfl rfl (λq c=>jr _ _),tt⟩};(have c3:(aU p s g).op≠57:=by simpa using a0);refine sq (sq (rg [] rfl ?_));refine cd rfl (λr=>?_) (λr=>?_);{(have e:(aU p s g).op=58:=by simpa using r);have hx:=j.2 (by omega);refine sk (cd rfl (λr=>?_) (λr=>?_));{refine rgs [⟨true,[.s 7 0,.s 99 0],.tup [],sU ([bt 5 g true]++[bt 3 (aU p s g).a true])⟩] rfl ?_ ?_;{have c:=i 3 (aU p s g).a true (by omega) hx;have z0:=d [bt 5 g true];have z1:=f ([bt 5 g true]++[bt 3 (aU p s g).a true]);exact au};refine ⟨[bt 5 g true]++[bt 3 (aU p s g).a true],?_,?_⟩;{simp [iD,e]};refine eX cX ⟨obs rfl,dJ (dM _) rfl rfl rfl rfl rfl (λq c=>jr _ _),tt⟩};simp_all};(have c4:(aU p s g).op≠58:=by simpa using r);refine sg rfl (cd rfl (λt=>?_) (λt=>?_));{(have e:(aU p s g).op=60:=by simpa using t);have hx:=j.2 (by omega);refine sk (cd rfl (λt=>?_) (λt=>?_));{refine rgs [⟨true,[.s 7 0,.s 99 0],.tup [],sU ([bt 5 g true]++[bt 3 (aU p s g).a true])⟩] rfl ?_ ?_;{have c:=i 3 (aU p s g).a true (by omega) hx;have z0:=d [bt 5 g true];have z1:=f ([bt 5 g true]++[bt 3 (aU p s g).a true]);exact au};refine ⟨[bt 5 g true]++[bt 3 (aU p s g).a true],?_,?_⟩;{simp [iD,e]};refine eX cX ⟨obs rfl,dJ (dM _) rfl rfl rfl rfl rfl (λq c=>jr _ _),tt⟩};simp_all};(have c6:(aU p s g).op≠60:=by simpa using t);refine rg [] rfl (cd rfl (λa1=>?_) (λa1=>?_));{(have e:(aU p s g).op=66:=by simpa using a1);have hx:=j.2 (by omega);refine rgs [⟨true,[.s 7 0,.s 99 0],.tup [],sU ([bt 5 g true]++[bt 3 (aU p s g).a true])⟩] rfl ?_ ?_;{have c:=i 3 (aU p s g).a true (by omega) hx;have z0:=d [bt 5 g true];have z1:=f ([bt 5 g true]++[bt 3 (aU p s g).a true]);exact au};refine ⟨[bt 5 g true]++[bt 3 (aU p s g).a true],?_,?_⟩;{simp [iD,e]};refine eX cX ⟨obs rfl,dJ (dM _) rfl rfl rfl rfl rfl (λq c=>jr _ _),tt⟩};(have d1:(aU p s g).op≠66:=by simpa using a1);refine sg rfl (cd rfl (λa2=>?_) (λa2=>?_));{(have e:(aU p s g).op=59:=by simpa using a2);have hx:=j.1 (by omega);refine rgs [⟨true,[.s 7 0,.s 99 0],.tup [],sU ([bt 5 g true]++[bt 3 (aU p s g).b true])⟩] rfl ?_ ?_;{have c:=i 3 (aU p s g).b true (by omega) hx;have z0:=d [bt 5 g true];have z1:=f ([bt 5 g true]++[bt 3 (aU p s g).b true]);exact au};refine ⟨[bt 5 g true]++[bt 3 (aU p s g).b true],?_,?_⟩;{simp [iD,e]};refine eX cX ⟨obs rfl,dJ (dM _) rfl rfl rfl rfl rfl (λq c=>jr _ _),tt⟩};(have c5:(aU p s g).op≠59:=by simpa using a2);refine sg rfl (cd rfl (λa3=>?_) (λa3=>?_));{(have e:(aU p s g).op=61:=by simpa using a3);have b0:=h.sel e;have d5:=b0.1;have d4:=h.fit.2.1;have b4:=b0.2.len;refine sq (drs [] rfl ?_ ?_);{simp only [aZ,bM,goI]at d5 d4;simp [-List.getD_eq_getElem?_getD,ay,under];omega};refine bk (WP.loop (α:=Nat) (λk=>aN [(7,.ptr (.s 7 0) 1 0 []),(8,.clo 219 [.ptr (.s 7 0) 1 0 []]),(91,rowP 215 qg EG (bJ p s g).cases),(92,.int (bJ p s g).cases.length),(93,.int k)] [(.s 7 0,.cells ⟨195,1,λ_ => .own (.s 99 0) ([bt 5 g true]++jP ((bJ p s g).cases.take k)).length 0 ([bt 5 g true]++jP ((bJ p s g).cases.take k)).length none,0⟩),(.s 99 0,dw 134 fH jK ([bt 5 g true]++jP ((bJ p s g).cases.take k)))]) (λk=>k<=(bJ p s g).cases.length) (λk=>(bJ p s g).cases.length - k) ?_ ?_);{refine ⟨0,?_,?_⟩;{exact abr _};refine eX cX ⟨obs rfl,dJ (dM _) rfl rfl rfl rfl rfl (λq c=>rfl),tt⟩};rintro k hk;refine sg rfl (sq ?_);refine cd rfl (λa4=>?_) (λa4=>?_);{(have u:k<(bJ p s g).cases.length:=by simp [-List.getD_eq_getElem?_getD]at a4;omega);have d6:=(b0.2.case (aA (bJ p s g) k) (by unfold aA;rw [aaS,aaF u];exact abZ _)).chan;(have b1:([bt 5 g true]++jP ((bJ p s g).cases.take k))++[bt 3 (aA (bJ p s g) k).chan true]=[bt 5 g true]++jP ((bJ p s g).cases.take (k+1)):=by rw [acs,<- EF u]);(have e0:([bt 5 g true]++jP ((bJ p s g).cases.take k)).length<=100:=by simp [jP];omega);refine sk (sq (bk (sq (rgs [] rfl ?_ ?_))));{simp [-List.getD_eq_getElem?_getD,ay,under];omega};refine rgs [⟨true,[.s 7 0,.s 99 0],.tup [],sU (([bt 5 g true]++jP ((bJ p s g).cases.take k))++[bt 3 (aA (bJ p s g) k).chan true])⟩] rfl ?_ ?_;{unfold aZ at d6;have c:=BF ([bt 5 g true]++jP ((bJ p s g).cases.take k)) 3 (aA (bJ p s g) k).chan true e0 (by omega) (by omega);have b2:=d ([bt 5 g true]++jP ((bJ p s g).cases.take k));have b3:=f (([bt 5 g true]++jP ((bJ p s g).cases.take k))++[bt 3 (aA (bJ p s g) k).chan true]);exact au};refine rg [] rfl ⟨k+1,?_,?_,?_⟩;{exact u};{refine eX cX ⟨obs rfl (hg:=q0 (ah (by rw [<- b1] <;> rfl))),dJ (dM _) rfl rfl (by rw [<- b1] <;> rfl) rfl rfl (λq c=>by rw [<- b1];exact jr _ _),tt⟩};(try simp only []);first | omega | grind};(have u:k=(bJ p s g).cases.length:=by simp [-List.getD_eq_getElem?_getD]at a4;omega);refine xt ⟨[bt 5 g true]++jP ((bJ p s g).cases.take k),?_,?_⟩;{rw [u,acU];simp [iD,e]};refine eX cX ⟨obs rfl,dJ (dM _) rfl rfl rfl rfl rfl (λq c=>rfl),tt⟩};(have c7:(aU p s g).op≠61:=by simpa using a3);refine sg rfl (cd rfl (λa5=>?_) (λa5=>?_));{(have e:(aU p s g).op=62:=by simpa using a5);refine sq (rgs [⟨true,[.s 7 0,.s 99 0],.tup [],sU ([bt 5 g true]++[bt 4 0 true])⟩] rfl ?_ ?_);{have c:=i 4 0 true (by omega) (by omega);have z0:=d [bt 5 g true];have z1:=f ([bt 5 g true]++[bt 4 0 true]);exact au};refine sg rfl (cd rfl (λa6=>?_) (λa6=>?_));{(have a9:s.count<6:=by simpa using a6);refine wE [(4,.rp 62 (encS s)),(7,.ptr (.s 7 0) 1 0 []),(8,.clo 219 [.ptr (.s 7 0) 1 0 []])] [(.s 7 0,.cells ⟨195,1,λ_ => .own (.s 99 0) 2 0 2 none,0⟩),(.s 99 0,dw 134 fH jK ([bt 5 g true]++[bt 4 0 true]))] ⟨obs rfl,dJ (dM _) rfl rfl rfl rfl rfl (λq c=>jr _ _),tt⟩ (rgs [⟨true,[.s 7 0,.s 99 0],.tup [],sU (([bt 5 g true]++[bt 4 0 true])++[bt 5 s.count true])⟩] rfl ?_ ?_);{have c:=BF ([bt 5 g true]++[bt 4 0 true]) 5 s.count true (by simp) (by omega) (by omega);have b2:=d ([bt 5 g true]++[bt 4 0 true]);have b3:=f (([bt 5 g true]++[bt 4 0 true])++[bt 5 s.count true]);exact au};refine ⟨([bt 5 g true]++[bt 4 0 true])++[bt 5 s.count true],?_,?_⟩;{simp [iD,e,a9]};refine eX cX ⟨obs rfl,dJ (dM _) rfl rfl rfl rfl rfl (λq c=>jr _ _),tt⟩};(have a9:¬ s.count<6:=by simpa using a6);refine sk ⟨[bt 5 g true]++[bt 4 0 true],?_,?_⟩;{simp [iD,e,a9]};refine eX cX ⟨obs rfl,dJ (dM _) rfl rfl rfl rfl rfl (λq c=>jr _ _),tt⟩};(have c8:(aU p s g).op≠62:=by simpa using a5);refine sg rfl (cd rfl (λa7=>?_) (λa7=>?_));{(have e:(aU p s g).op=63:=by simpa using a7);have e4:=d3.join (.inl e);refine sq (rgs [⟨true,[.s 7 0,.s 99 0],.tup [],sU ([bt 5 g true]++[bt 4 0 false])⟩] rfl ?_ ?_);{have c:=i 4 0 false (by omega) (by omega);have z0:=d [bt 5 g true];have z1:=f ([bt 5 g true]++[bt 4 0 false]);exact au};refine sq (drs [] rfl ?_ ?_);{simp [-List.getD_eq_getElem?_getD,ay,under];omega};refine sq (rgs [CG.pure (.bool (jB s g (bg (goI s g) (aU p s g).a)))] rfl ?_ ?_);{have c:=FU s g (bg (goI s g) (aU p s g).a);exact au};refine cd rfl (λv=>?_) (λv=>?_);{(have e6:0<=bg (goI s g) (aU p s g).a/\bg (goI s g) (aU p s g).a<8:=by simp only [jB,abK]at v;omega);refine wE [(12,.int (bg (goI s g) (aU p s g).a)),(7,.ptr (.s 7 0) 1 0 []),(8,.clo 219 [.ptr (.s 7 0) 1 0 []])] [(.s 7 0,.cells ⟨195,1,λ_ => .own (.s 99 0) 2 0 2 none,0⟩),(.s 99 0,dw 134 fH jK ([bt 5 g true]++[bt 4 0 false]))] ⟨obs rfl,dJ (dM _) rfl rfl rfl rfl rfl (λq c=>jr _ _),tt⟩ (rgs [⟨true,[.s 7 0,.s 99 0],.tup [],sU (([bt 5 g true]++[bt 4 0 false])++[bt 5 (bg (goI s g) (aU p s g).a) false])⟩] rfl ?_ ?_);{have ew:IntKind.i64.wrap (bg (goI s g) (aU p s g).a)=bg (goI s g) (aU p s g).a:=bK (by omega) (by omega);have c:=BF ([bt 5 g true]++[bt 4 0 false]) 5 (bg (goI s g) (aU p s g).a) false (by simp) (by omega) (by omega);have b2:=d ([bt 5 g true]++[bt 4 0 false]);have b3:=f (([bt 5 g true]++[bt 4 0 false])++[bt 5 (bg (goI s g) (aU p s g).a) false]);simp only [ew];exact au};refine ⟨([bt 5 g true]++[bt 4 0 false])++[bt 5 (bg (goI s g) (aU p s g).a) false],?_,?_⟩;{simp [-List.getD_eq_getElem?_getD,iD,e,v]};refine eX cX ⟨obs rfl,dJ (dM _) rfl rfl rfl rfl rfl (λq c=>jr _ _),tt⟩};refine sk ⟨[bt 5 g true]++[bt 4 0 false],?_,?_⟩;{simp [-List.getD_eq_getElem?_getD,iD,e,v]};refine eX cX ⟨obs rfl,dJ (dM _) rfl rfl rfl rfl rfl (λq c=>jr _ _),tt⟩};(have c9:(aU p s g).op≠63:=by simpa using a7);refine sg rfl (cd rfl (λa8=>?_) (λa8=>?_));{(have e:(aU p s g).op=65:=by simpa using a8);refine rgs [⟨true,[.s 7 0,.s 99 0],.tup [],sU ([bt 5 g true]++[bt 6 0 true])⟩] rfl ?_ ?_;{have c:=i 6 0 true (by omega) (by omega);have z0:=d [bt 5 g true];have z1:=f ([bt 5 g true]++[bt 6 0 true]);exact au};refine ⟨[bt 5 g true]++[bt 6 0 true],?_,?_⟩;{simp [iD,e]};refine eX cX ⟨obs rfl,dJ (dM _) rfl rfl rfl rfl rfl (λq c=>jr _ _),tt⟩};(have d0:(aU p s g).op≠65:=by simpa using a8);refine sk ⟨[bt 5 g true],?_,?_⟩;{simp [iD,b6,c0,b7,b8,b9,c1,c2,c3,c4,c6,d1,c5,c7,c8,c9,d0]};refine eX cX ⟨obs rfl,dJ (dM _) rfl rfl rfl rfl rfl (λq c=>rfl),tt⟩
 rintro l hl;refine sq ?_;(have e5:l.length<=5:=by rw [hl];exact MX h);refine rgs [⟨true,[.s 99 0],.tup [],[zF (jh l)]⟩] rfl ?_ ?_;{have c:=QE l (by omega);have d8:kU [.s 99 0] [dw 134 fH jK l]:=⟨λ_ _=>rfl,tt⟩;have d9:kU (bs 1) [zF (jh l)]:=⟨λ_ _=>rfl,tt⟩;exact au};refine sq ?_;have b4:(jh l).length=l.length:=sO LU l;refine wE [(7,.ptr (.s 7 0) 1 0 [])] [(.s 7 0,.cells ⟨195,1,λ_ => .own (.s 99 0) (jh l).length 0 (jh l).length none,0⟩),(.s 99 0,dw 134 fH jK (jh l))] ⟨obs rfl (hg:=q0 (ah (by rw [b4]))),dJ (dM _) rfl rfl rfl rfl rfl (λq c=>jr _ _),tt⟩ (rgs [⟨true,[.s 99 0],.own (.b 0) (jh l).length 0 (dd jK (jh l) (jh l).length).length none,[ddO (jh l)]⟩] rfl ?_ ?_);{have c:=Lm (jh l);have d8:kU [.s 99 0] [dw 134 fH jK (jh l)]:=⟨λ_ _=>rfl,tt⟩;have d9:kU (bs 1) [ddO (jh l)]:=⟨aaQ _ _,tt⟩;exact au};refine rX ?_;have d7:=Ij jK (jh l) (jh l).length;refine aH hT [(.s 99 0,(jh l).length)] (ts:=[(6,rowP 134 fH jK (dU p s g))]) (l:=[rowP 134 fH jK (dU p s g)]) ⟨⟨_,rfl,aa1 _⟩,tt⟩ ⟨⟨rfl,_,rfl,?_⟩,tt⟩ trivial rfl rfl rfl;rw [dU,<- hl];refine gZ rfl rfl rfl (λh=>by cases h) (by simp [dL,aQ];exact d7) (λq c=>?_);show fC (ren _ (bif Nat.blt (0+q) _ then _ else _))=true/\wJ (ren _ (bif Nat.blt (0+q) _ then _ else _)) _;rw [ab1,oQ c,jr];exact ⟨rfl,wJ.refl _⟩
structure bF where
 go:Int
 alt:Int
 deriving DecidableEq
def eU:bF:=⟨0,0⟩
def bn (x:bF):AV:=bI 122 [.int x.go,.int x.alt]
theorem nI (ids:List Id) (x:bF):fE ids (bn x)=true:=rfl
def nR (p:aj) (s:bW):Int:=if dX p=false then 3 else if ¬ dG p s then 4 else 0
theorem OI (p:aj) (s:bW) (e:mZ s):AC Tryz.prog T aJ 114 [ak p,encS s] [] (.int (nR p s)) []:=by
 refine aX Tryz.func114 ?_;refine sg rfl (sq (sq ?_));refine WP.ent (st':=aN [(2,.rp 26 (ak p)),(3,.rp 62 (encS s))] []) (em [(.s 2 0,1),(.s 3 0,1)] ⟨sF,sF,tt⟩ ⟨rq,rq,tt⟩ trivial) ?_;refine rgs [CG.pure (y7 p)] rfl ?_ ?_
 ·have f:=Dy p;exact au
 refine sg rfl (cd rfl (λa=>?_) (λa=>?_))
 ·(have b:dX p=false:=by simp at a;simp [dX];exact a);exact sg rfl (WP.ret (bC hT (by rfl) (by rw [nR,aaI b])))
 (have b:¬ dX p=false:=by simp at a;simp [dX];exact a);refine sk (sq (sq (rgs [CG.pure (.bool (decide (dG p s)))] rfl ?_ ?_)));{have f:=LM p s e;exact au};refine cd rfl (λc=>?_) (λc=>?_);{(have d:¬ dG p s:=by simpa using c);exact sg rfl (WP.ret (bC hT (by rfl) (by rw [nR,Y0 b,aaI d])))};(have d:¬ ¬ dG p s:=by simpa using c);refine sk (sq (rg [] rfl ?_));exact WP.ret (bC hT (by rfl) (by rw [nR,Y0 b,Y0 d]))
theorem aaU {p:aj} {s:bW} (h:nR p s=0):dG p s:=by
 unfold nR at h;split at h
 ·cases h
 split at h;{cases h};rename_i b a;simpa using a
def uz (p:aj) (s:bW) (g:Int):List bF:=(iJ p s g).map λa=>⟨g,a⟩
def aK (p:aj) (s:bW):List bF:=if nR p s=0 then (iy s).flatMap (uz p s)else []
theorem zl {p:aj} {s:bW} (c:mZ s) (d:dG p s) {g:Int} (h:g∈iy s):eH p s g:=by
 obtain ⟨j,e,a,b⟩:=sW.1 h;exact ⟨c,d,by rw [goI,a];exact b,by omega⟩
def pK (p:aj) (s:bW) (i j:Nat):List bF:=((iy s).take i).flatMap (uz p s)++(uz p s ((iy s).getD i 0)).take j
theorem KW {α β:Type} {f:α->List β} {n:Nat}:∀ {l:List α},(∀ x∈l,(f x).length<=n)->(l.flatMap f).length<=n*l.length
 | [],_=>by simp
 | x::r,h=>by have b:=h x (by simp);have c:=KW (l:=r) (λy a=>h y (by simp [a]));rw [adC,acn,acO,Nat.mul_succ];omega
theorem TJ {p:aj} {s:bW} (a:mZ s) (b:dG p s) (i j:Nat):(pK p s i j).length<=30+j:=by
 have c:(((iy s).take i).flatMap (uz p s)).length<=5*((iy s).take i).length:=KW λx hx=>by rw [uz,acK];exact CX (zl a b (List.mem_of_mem_take hx))
 have d:(iy s).length<=6:=sZ s 6;have e:((iy s).take i).length<=(iy s).length:=by rw [ab7];omega
 rw [pK,acn,ab7];omega
theorem YP {p:aj} {s:bW} {x:Int} {j:Nat} (a:j<(iJ p s x).length):(uz p s x)[j]? = some ⟨x,(iJ p s x).getD j 0⟩:=by simp [uz,a]
theorem PI {p:aj} {s:bW} {i j:Nat} (a:j<(iJ p s ((iy s).getD i 0)).length):pK p s i j++[⟨(iy s).getD i 0,(iJ p s ((iy s).getD i 0)).getD j 0⟩]=pK p s i (j+1):=by
 rw [pK,pK,acs,ac7 (l:=uz p s ((iy s).getD i 0)),YP a];rfl
theorem PK {p:aj} {s:bW} {i:Nat} (hi:i<(iy s).length):pK p s i (iJ p s ((iy s).getD i 0)).length=pK p s (i+1) 0:=by
 rw [pK,pK,List.take_of_length_le (l:=uz p s ((iy s).getD i 0)) (by simp [uz]),ac7 (l:=iy s),aaF hi,acT];simp [hi]
abbrev dn (l:List bF):AV:=rowP 122 bn eU l
theorem zo (p:aj) (s:bW) (t:mZ s):AC Tryz.prog T aJ 69 [ak p,encS s] [] (.tup [dn (aK p s),.int (nR p s)]) []:=by
 refine aX Tryz.func69 ?_;refine sg rfl (sq (sq ?_));refine WP.ent (st':=aN [(2,.rp 26 (ak p)),(3,.rp 62 (encS s))] []) (em [(.s 2 0,1),(.s 3 0,1)] ⟨sF,sF,tt⟩ ⟨rq,rq,tt⟩ trivial) ?_;refine rgs [CG.pure (.int (nR p s))] rfl ?_ ?_
 ·have f:=OI p s t;exact au
 refine sg rfl (cd rfl (λm=>?_) (λm=>?_))
 ·(have g:nR p s≠0:=by simpa using m);refine sg rfl (rX ?_);refine aH hT [] (ts:=[(4,dn (aK p s)),(5,.int (nR p s))]) (l:=[dn (aK p s),.int (nR p s)]) trivial ⟨⟨rfl,_,rfl,?_⟩,cq,tt⟩ trivial rfl rfl rfl;rw [aK,Y0 g];exact dI (by decide)
 (have g:nR p s=0:=by simpa using m);have u:=aaU g;refine sk (sq (rg [] rfl ?_));refine sq (sq (rgs [CG.pure (ints false (iy s))] rfl ?_ ?_));{have f:=Y8 s;exact au};refine bk (WP.loop (α:=Nat) (λi=>aN [(2,.rp 26 (ak p)),(3,.rp 62 (encS s)),(7,.own (.s 39 0) (pK p s i 0).length 0 (pK p s i 0).length none),(19,ints false (iy s)),(20,.int (iy s).length),(21,.int i)] [(.s 39 0,dw 122 bn eU (pK p s i 0))]) (λi=>i<=(iy s).length) (λi=>(iy s).length - i) ?_ ?_);{refine ⟨0,?_,?_⟩;{exact abr _};refine eX ⟨cq,cq,⟨rfl,_,rfl,gB⟩,cq,cq,cq,tt⟩ ⟨⟨λ_ _=>rfl,.inr ⟨rfl,122,_,rfl,by decide⟩⟩,tt⟩};rintro i hi;refine sg rfl (sq ?_);refine cd rfl (λn=>?_) (λn=>?_);{(have a:i<(iy s).length:=by simp [-List.getD_eq_getElem?_getD]at n;omega);have k:eH p s ((iy s).getD i 0):=zl t u (by rw [aaS,aaF a];exact abZ _);have w:(iy s).length<=6:=sZ s 6;refine sk (sq (bk (sq (rgs [] rfl ?_ ?_))));{simp [-List.getD_eq_getElem?_getD,ay,under];omega};refine sq (rgs [CG.pure (ints false (iJ p s ((iy s).getD i 0)))] rfl ?_ ?_);{have f:=SE p s _ k;exact au};refine bk (WP.loop (α:=Nat) (λj=>aN [(2,.rp 26 (ak p)),(3,.rp 62 (encS s)),(7,.own (.s 39 0) (pK p s i j).length 0 (pK p s i j).length none),(9,.int ((iy s).getD i 0)),(19,ints false (iy s)),(20,.int (iy s).length),(21,.int i),(28,ints false (iJ p s ((iy s).getD i 0))),(29,.int (iJ p s ((iy s).getD i 0)).length),(30,.int j)] [(.s 39 0,dw 122 bn eU (pK p s i j))]) (λj=>j<=(iJ p s ((iy s).getD i 0)).length) (λj=>(iJ p s ((iy s).getD i 0)).length - j) ?_ ?_);{refine ⟨0,?_,?_⟩;{exact abr _};refine eX cX ⟨dJ (nI _) rfl rfl rfl rfl rfl (λq f=>rfl),tt⟩};rintro j y;refine sg rfl (sq ?_);refine cd rfl (λo=>?_) (λo=>?_);{(have b:j<(iJ p s ((iy s).getD i 0)).length:=by simp [-List.getD_eq_getElem?_getD]at o;omega);have v:=CX k;have x:=TJ t u i j;refine sk (sq (bk (sq (rgs [] rfl ?_ ?_))));{simp [-List.getD_eq_getElem?_getD,ay,under];omega};refine rgs [] rfl ?_ ?_;{have r:(T 122).bytes=16:=rfl;simp [ay,under,r];omega};refine rg [] rfl ?_;have d:=PI b;refine ⟨j+1,?_,?_,?_⟩;{exact b};{refine eX ⟨cq,cq,⟨rfl,_,rfl,ah (by rw [<- d,bZ])⟩,cq,cq,cq,cq,cq,cq,cq,tt⟩ ⟨dJ (nI _) rfl rfl (by rw [<- d,bZ]) rfl rfl (by rw [<- d];exact CU (z:=(T 122).zero) rfl (bP (λq=>by match q with | 0 | 1 | q+2=>rfl)) (λq f=>rfl)),tt⟩};(try simp only []);first | omega | grind};(have b:j=(iJ p s ((iy s).getD i 0)).length:=by simp [-List.getD_eq_getElem?_getD]at o;omega);subst b;refine xt (rg [] rfl ?_);have c:=PK (p:=p) a;refine ⟨i+1,?_,?_,?_⟩;{exact a};{refine eX ⟨cq,cq,⟨rfl,_,rfl,ah (by rw [c])⟩,cq,cq,cq,tt⟩ ⟨dJ (nI _) rfl rfl (by rw [c]) rfl rfl (λq f=>by rw [<- c]),tt⟩};(try simp only []);first | omega | grind};(have a:i=(iy s).length:=by simp [-List.getD_eq_getElem?_getD]at n;omega);(have e:pK p s i 0=aK p s:=by rw [pK,a,acU,List.take_zero,acB,aK,aaI g]);refine xt (sq (rg [] rfl ?_));refine rX ?_;refine aH hT [(.s 39 0,(pK p s i 0).length)] (ts:=[(4,dn (aK p s)),(5,.int (nR p s))]) (l:=[dn (aK p s),.int (nR p s)]) ⟨⟨_,rfl,aa1 _⟩,tt⟩ ⟨⟨rfl,_,rfl,?_⟩,⟨rfl,_,rfl,ah (by rw [g])⟩,tt⟩ trivial rfl rfl rfl;rw [<- e];exact gZ rfl rfl rfl (λh=>by cases h) (by simp [dL,aQ]) (λq f=>by rw [ab1];exact ⟨rfl,wJ.refl _⟩)
structure PM where
 s:bW
 g:Int
 fuel:Int
 val:Int
 over:Bool
def iW (p:aj) (m:PM):AV:=bI 263 [ak p,encS m.s,.int m.g,.int m.fuel,.int m.val,.bool m.over]
abbrev mO (p:aj) (m:PM):Ob := .cells ⟨263,1,λ_=>iW p m,0⟩
theorem vF (a:Id->Id) (p:aj):ren a (ak p)=ak p:=bP (λq=>by match q with | 0 | 1 | 2 | 3 | q+4=>rfl)
theorem aal (a:Id->Id) (g:jm):ren a (cZ g)=cZ g:=bP (λq=>by match q with | 0 | 1 | 2 | 3 | 4 | q+5=>rfl)
theorem aam (a:Id->Id) (c:iM):ren a (dS c)=dS c:=bP (λq=>by match q with | 0 | 1 | 2 | 3 | 4 | 5 | q+6=>rfl)
theorem qo (a:Id->Id) (s:bW):ren a (encS s)=encS s:=bP (λq=>by
 match q with
 | 0 | 1 | 4 | q+5=>rfl
 | 2=>exact bP λi=>aam a _
 | 3=>exact bP λi=>aal a _)
theorem iE (a:Id->Id) (p:aj) (m:PM):ren a (iW p m)=iW p m:=bP (λq=>by
 match q with
 | 0=>exact vF a p
 | 1=>exact qo a _
 | 2 | 3 | 4 | 5 | q+6=>rfl)
theorem mP (a:Id->Id) (p:aj) (m:PM):List.map (fK a) [mO p m]=[mO p m]:=by
 show [Ob.cells ⟨_,_,λ_=>ren a (iW p m),_⟩]=_;rw [iE]
theorem bQ (ids:List Id) (p:aj) (m:PM):kU ids [mO p m]:=⟨λ_ _=>rfl,tt⟩
theorem Ah {p:aj} {m:PM} {q:List Nat} {y:AV} {s:bW} (e:(encS m.s).put q y=encS s):(iW p m).put (1::q) y=iW p { m with s:=s}:=(dB (abJ rfl)).trans (ab5 (λz=>bI 263 [ak p,z,.int m.g,.int m.fuel,.int m.val,.bool m.over]) e)
theorem kP (p:aj) (m:PM) (x:Int):(iW p m).put [4] (.int x)=iW p { m with val:=x}:=dB (abJ rfl)
theorem zq (p:aj) (m:PM) (x:Bool):(iW p m).put [5] (.bool x)=iW p { m with over:=x}:=dB (abJ rfl)
abbrev aC (m:PM):jm:=goI m.s m.g
abbrev eF (m:PM) (x:jm):PM:={ m with s:={ m.s with gos:=m.s.gos.set m.g.toNat x} }
abbrev cO (m:PM) (c:Int) (x:iM):PM:={ m with s:={ m.s with chans:=m.s.chans.set c.toNat x} }
structure mM (m:PM):Prop where
 s:mZ m.s
 g:0<=m.g/\m.g<6
theorem mZ.eF {s:bW} (h:mZ s) {k:Nat} {x:jm} (hx:Ap x):mZ { s with gos:=s.gos.set k x}:=⟨h.vars,h.owner,h.chans,by show (s.gos.set k x).length=6;rw [acu];exact h.gos,h.ch,λg hg=>by
 rcases acN hg with a | a
 ·exact h.go g a
 ·rw [a];exact hx⟩
theorem mZ.cO {s:bW} (h:mZ s) {k:Nat} {x:iM} (hx:DJ x):mZ { s with chans:=s.chans.set k x}:=⟨h.vars,h.owner,by show (s.chans.set k x).length=4;rw [acu];exact h.chans,h.gos,λc hc=>by
 rcases acN hc with a | a
 ·exact h.ch c a
 ·rw [a];exact hx,h.go⟩
theorem mZ.setVar {s:bW} (h:mZ s) (k:Nat) (x:Int):mZ { s with vars:=s.vars.set k x}:=⟨by show (s.vars.set k x).length=8;rw [acu];exact h.vars,h.owner,h.chans,h.gos,h.ch,h.go⟩
theorem mZ.setOwn {s:bW} (h:mZ s) (k:Nat) (x:Int):mZ { s with owner:=s.owner.set k x}:=⟨h.vars,by show (s.owner.set k x).length=4;rw [acu];exact h.owner,h.chans,h.gos,h.ch,h.go⟩
theorem Nb {p:aj} {m:PM} {q:List Nat} {y:AV} {x:jm} (h:m.g.toNat<m.s.gos.length) (e:(cZ (aC m)).put q y=cZ x):(iW p m).put (1::3::m.g.toNat::q) y=iW p (eF m x):=Ah (mQ h e)
theorem nG {p:aj} {m:PM} {c:Int} {q:List Nat} {y:AV} {x:iM} (h:c.toNat<m.s.chans.length) (e:(dS (bV m.s c)).put q y=dS x):(iW p m).put (1::2::c.toNat::q) y=iW p (cO m c x):=Ah (uy h e)
theorem BH {p:aj} {m:PM} {q:List Nat} {y:AV} {x:jm} (h:mM m) (e:(cZ (aC m)).put q y=cZ x):(iW p m).put (1::3::m.g.toNat::q) y=iW p (eF m x):=Nb (by rw [h.s.gos];have:=h.g;omega) e
theorem YO {p:aj} {m:PM} {c:Int} {q:List Nat} {y:AV} {x:iM} (h:mM m) (hc:0<=c/\c<4) (e:(dS (bV m.s c)).put q y=dS x):(iW p m).put (1::2::c.toNat::q) y=iW p (cO m c x):=nG (by rw [h.s.chans];omega) e
theorem jX {s:bW} {c:Int} {x:iM} (hl:c.toNat<s.chans.length):bV { s with chans:=s.chans.set c.toNat x} c=x:=by
 show (s.chans.set c.toNat x).getD c.toNat AU=x;simp [hl]
theorem wO {m:PM} {c:Int} (x y:iM):cO (cO m c x) c y=cO m c y:=by simp [cO]
theorem BI {p:aj} {m:PM} {c:Int} {q a:List Nat} {y b:AV} {x x':iM} (h:c.toNat<m.s.chans.length) (e:(dS (bV m.s c)).put q y=dS x) (d:(dS x).put a b=dS x'):((iW p m).put (1::2::c.toNat::q) y).put (1::2::c.toNat::a) b=iW p (cO m c x'):=by
 rw [nG h e,nG (m:=cO m c x) (x:=x') (by show c.toNat<(m.s.chans.set _ _).length;rw [acu];exact h) (by rw [jX h];exact d),wO]
theorem Nc {p:aj} {m:PM} {c:Int} {q b d:List Nat} {y f g:AV} {x x' a:iM} (h:c.toNat<m.s.chans.length) (e:(dS (bV m.s c)).put q y=dS x) (i:(dS x).put b f=dS x') (j:(dS x').put d g=dS a):(((iW p m).put (1::2::c.toNat::q) y).put (1::2::c.toNat::b) f).put (1::2::c.toNat::d) g=iW p (cO m c a):=by
 rw [BI h e i,nG (m:=cO m c x') (x:=a) (by show c.toNat<(m.s.chans.set _ _).length;rw [acu];exact h) (by rw [jX h];exact j),wO]
abbrev qW (m:PM):AV := .ptr (.b 0) 1 0 [1,3,m.g.toNat]
theorem PV (p:aj) (m:PM) (hg:0<=m.g/\m.g<6):AC Tryz.prog T aJ 162 [.ptr (.b 0) 1 0 []] [mO p m] (qW m) [mO p m]:=by
 refine aX Tryz.func162 ?_;refine sg rfl (sq (drs [] rfl ?_ ?_))
 ·simp [-List.getD_eq_getElem?_getD,ay,under];omega
 exact WP.ret (aH hT [] (ts:=[(2,qW m)]) (l:=[qW m]) trivial cX ⟨obs rfl,tt⟩ rfl rfl rfl)
theorem rQ (p:aj) (m:PM) (hg:0<=m.g/\m.g<6):AC Tryz.prog T aJ 162 [.ptr (.b 0) 1 0 []] (List.map (fK (sig [.b 0] 0)) [mO p m]) (qW m) [mO p m]:=by rw [mP];exact PV p m hg
def bU (m:PM) (r x:Int):PM:=if 0<=r then eF m (rC (aC m) r x)else m
theorem oP {m:PM} (h:mM m) (r x:Int):mM (bU m r x):=by
 unfold bU;split
 ·exact ⟨h.s.eF (by show ((aC m).regs.set _ _).length=8;rw [acu];exact gW h.s _),h.g⟩
 exact h
theorem Y2 (p:aj) (m:PM) (r x:Int) (h:mM m) (k:r<8):AC Tryz.prog T aJ 227 [.ptr (.b 0) 1 0 [],.int r,.int x] [mO p m] (.tup []) [mO p (bU m r x)]:=by
 refine aX Tryz.func227 ?_;refine sg rfl (cd rfl (λc=>?_) (λc=>?_))
 ·have a:0<=r:=by simpa using c
  have i:(aC m).regs.length=8:=gW h.s _
  refine rgs [⟨true,[.b 0],qW m,[mO p m]⟩] rfl ?_ ?_
  ·have j:=rQ p m h.g;have d:=bQ [.b 0] p m;have f:=bQ (bs 1) p m;exact au
  change Fin ..
  first
  | (
   refine aH hT [] (ts:=[]) (l:=[]) trivial trivial ⟨obs rfl (hg:=q0 (ah ?_)),tt⟩ rfl rfl rfl
   show (ren _ (iW p m)).put _ _=_
   rw [iE,bU,aaI a]
   exact BH h (kM x (by omega)))
  | (
   have e:bU m r x=m:=by rw [bU,Y0 (by simp at c;omega)]
   rw [e]
   exact aH hT [] (ts:=[]) (l:=[]) trivial trivial ⟨obs rfl,tt⟩ rfl rfl rfl)
 ·refine sk ?_
  change Fin ..
  first
  | (
   refine aH hT [] (ts:=[]) (l:=[]) trivial trivial ⟨obs rfl (hg:=q0 (ah ?_)),tt⟩ rfl rfl rfl
   show (ren _ (iW p m)).put _ _=_
   rw [iE,bU,aaI a]
   exact BH h (kM x (by omega)))
  | (
   have e:bU m r x=m:=by rw [bU,Y0 (by simp at c;omega)]
   rw [e]
   exact aH hT [] (ts:=[]) (l:=[]) trivial trivial ⟨obs rfl,tt⟩ rfl rfl rfl)
theorem oJ (p:aj) (m:PM) (r x:Int) (h:mM m) (a:r<8):AC Tryz.prog T aJ 227 [.ptr (.b 0) 1 0 [],.int r,.int x] (List.map (fK (sig [.b 0] 0)) [mO p m]) (.tup []) [mO p (bU m r x)]:=by rw [mP];exact Y2 p m r x h a
def jT (m:PM) (why:Int):PM:={ eF m (kG (aC m) 4 why)with val:=0,over:=true}
theorem vS {m:PM} (h:mM m) (why:Int):mM (jT m why):=⟨h.s.eF rfl,h.g⟩
theorem aaH (g:jm) (why:Int):((((T 59).zero.put [0] (.int 4)).put [1] (.int g.func)).put [2] (.int g.pc)).put [3] (.int why)=cZ (kG g 4 why):=by
 rw [FH,gu,show (cZ { go0 with status:=4}).put [1] (.int g.func)=cZ { go0 with status:=4,func:=g.func}from dB (abJ rfl),pO,Dx];rfl
theorem Zo (p:aj) (m:PM) (why:Int) (h:mM m):AC Tryz.prog T aJ 233 [.ptr (.b 0) 1 0 [],.int why] [mO p m] (.tup []) [mO p (jT m why)]:=by
 refine aX Tryz.func233 ?_;refine sq (rgs [⟨true,[.b 0],qW m,[mO p m]⟩] rfl ?_ ?_)
 ·have d:=rQ p m h.g;have a:=bQ [.b 0] p m;have c:=bQ (bs 1) p m;exact au
 refine sq (wE [(0,.ptr (.b 0) 1 0 []),(1,.int why),(4,qW m)] [(.b 0,mO p m)] ⟨obs rfl (hg:=q0 (ah (iE _ _ _))),tt⟩ ?_);refine dr [] rfl (wE [(0,.ptr (.b 0) 1 0 [])] [(.b 0,mO p (eF m (kG (aC m) 4 why)))] ⟨obs rfl (hg:=q0 (ah (BH h (by rw [<- aaH];rfl)))),tt⟩ ?_);refine rg [] rfl ?_;change Fin ..;refine aH hT [] (ts:=[]) (l:=[]) trivial trivial ⟨obs rfl (hg:=q0 (ah ?_)),tt⟩ rfl rfl rfl;exact (ab5 (λz=>AV.put z [5] (.bool true)) (kP p (eF m (kG (aC m) 4 why)) 0)).trans (zq p { eF m (kG (aC m) 4 why)with val:=0} true)
theorem vY (p:aj) (m:PM) (why:Int) (h:mM m):AC Tryz.prog T aJ 233 [.ptr (.b 0) 1 0 [],.int why] (List.map (fK (sig [.b 0] 0)) [mO p m]) (.tup []) [mO p (jT m why)]:=by rw [mP];exact Zo p m why h
def gX (p:aj) (m:PM) (g:Int):PM:={ m with s:=(bY p m.s g m.fuel).1}
theorem GN (p:aj) (m:PM) (g:Int) (h:mZ m.s):AC Tryz.prog T aJ 163 [.ptr (.b 0) 1 0 [],.int g] [mO p m] (.tup []) [mO p (gX p m g)]:=by
 refine aX Tryz.func163 ?_;refine drs [CG.pure (.tup [encS (bY p m.s g m.fuel).1,.int (bY p m.s g m.fuel).2])] rfl ?_ ?_
 ·have a:=Td p m.s g m.fuel h;exact au
 change Fin ..;exact aH hT [] (ts:=[]) (l:=[]) trivial trivial ⟨obs rfl (hg:=q0 (ah (Ah (abQ _ _)))),tt⟩ rfl rfl rfl
abbrev chM (c:Int):AV := .ptr (.b 0) 1 0 [1,2,c.toNat]
theorem gI {m:PM} (h:mM m) (x:Int):mM { m with val:=x}:=⟨h.s,h.g⟩
theorem WL {m:PM} (h:mM m) (x:Bool):mM { m with over:=x}:=⟨h.s,h.g⟩
theorem WM {m:PM} (h:mM m) {x:jm} (hx:Ap x):mM (eF m x):=⟨h.s.eF hx,h.g⟩
theorem uP {m:PM} (h:mM m) (c:Int) {x:iM} (hx:DJ x):mM (cO m c x):=⟨h.s.cO hx,h.g⟩
abbrev oD (x:iM) (k v:Int):iM:={ x with buf:=x.buf.set k.toNat v}
def iL (p:aj) (m:PM) (c x:Int):PM :=
 if (bV m.s c).closed=true then jT { m with val:=x} 4 else
 if 0<p.chans.getD c.toNat 0 then cO { m with val:=x} c { oD (bV m.s c) (bV m.s c).len x with len:=(bV m.s c).len+1}else
 { eF (cO { m with val:=x} c { bV m.s c with offer:=1,frm:=m.g,val:=x}) { aC m with status:=2}with over:=true}
theorem GH {p:aj} {m:PM} (h:mM m) (c x:Int):mM (iL p m c x):=by
 have hb:(bV m.s c).buf.length=4:=ku h.s _;unfold iL;split
 ·exact vS (gI h x) 4
 split;{exact uP (gI h x) c (by show ((bV m.s c).buf.set _ _).length=4;rw [acu];exact hb)};exact WL (WM (uP (gI h x) c (x:={ bV m.s c with offer:=1,frm:=m.g,val:=x}) hb) (x:={ aC m with status:=2}) (gW h.s _)) true
theorem Xa (p:aj) (m:PM) (c x:Int) (h:mM m) (hc:aZ c p.chans.length) (hp:qy p) (y:jM p m.s c=true) (hlen:0<=(bV m.s c).len):AC Tryz.prog T aJ 225 [.ptr (.b 0) 1 0 [],.int c,.int x] [mO p m] (.tup []) [mO p (iL p m c x)]:=by
 refine aX Tryz.func225 ?_;have v:=hp.chans;have u:p.chans.getD c.toNat 0<=4:=(hp.caps _ (by unfold aZ at hc;rw [aaS,aaF (show c.toNat<p.chans.length by omega)];exact abZ _)).2;unfold aZ at hc;have o:0<=c/\c<4:=by omega
 have hb:(bV m.s c).buf.length=4:=ku h.s _;refine sq (rgs [] rfl ?_ ?_)
 ·simp [-List.getD_eq_getElem?_getD,ay,under];omega
 refine sg rfl (bk (sq ?_));refine wE [(0,.ptr (.b 0) 1 0 []),(1,.int c),(2,.int x),(6,chM c)] [(.b 0,mO p { m with val:=x})] ⟨obs rfl (hg:=q0 (ah (kP _ _ _))),tt⟩ (rg [] rfl ?_);refine cd rfl (λi=>?_) (λi=>?_)
 ·have d:(bV m.s c).closed=true:=by simp [-List.getD_eq_getElem?_getD]at i;exact i
  refine rgs [⟨true,[.b 0],.tup [],[mO p (jT { m with val:=x} 4)]⟩] rfl ?_ ?_
  ·have w:=vY p { m with val:=x} 4 (gI h x);have q:=bQ [.b 0] p { m with val:=x};have r:=bQ (bs 1) p (jT { m with val:=x} 4);exact au
  change Fin ..
  first
  | (
   refine aH hT [] (ts:=[]) (l:=[]) trivial trivial ⟨obs rfl (hg:=q0 (ah ?_)),tt⟩ rfl rfl rfl
   rw [iL,aaI d]
   exact iE _ _ _)
  | (
   refine aH hT [] (ts:=[]) (l:=[]) trivial trivial ⟨obs rfl (hg:=q0 (ah ?_)),tt⟩ rfl rfl rfl
   rw [iL,Y0 d,aaI f]
   have a:c.toNat<m.s.chans.length:=by rw [h.s.chans];omega
   have j:IntKind.i64.wrap ((bV (cO { m with val:=x} c (oD (bV m.s c) (bV m.s c).len x)).s c).len+1)=(bV m.s c).len+1:=by rw [jX a];exact bK (by show _<=(bV m.s c).len+1;omega) (by show (bV m.s c).len+1<_;omega)
   show (iW p (cO { m with val:=x} c (oD (bV m.s c) (bV m.s c).len x))).put [1,2,c.toNat,1] (AV.int (IntKind.i64.wrap ((bV (cO { m with val:=x} c (oD (bV m.s c) (bV m.s c).len x)).s c).len+1)))=_
   rw [j]
   refine (nG (m:=cO { m with val:=x} c (oD (bV m.s c) (bV m.s c).len x)) (by show c.toNat<(m.s.chans.set _ _).length;rw [acu];exact a) (by rw [jX a];exact su _ _)).trans ?_
   rw [wO])
  | (
   refine aH hT [] (ts:=[]) (l:=[]) trivial trivial ⟨obs rfl (hg:=q0 (ah ?_)),tt⟩ rfl rfl rfl
   rw [iL,Y0 d,Y0 f]
   exact zq _ _ _)
 ·have d:¬ (bV m.s c).closed=true:=by simp [-List.getD_eq_getElem?_getD]at i;exact λe=>absurd (i.symm.trans e) (by decide)
  refine sq (rgs [] rfl ?_ ?_)
  ·simp [-List.getD_eq_getElem?_getD,ay,under];omega
  refine cd rfl (λn=>?_) (λn=>?_)
  ·have f:0<p.chans.getD c.toNat 0:=by simp [-List.getD_eq_getElem?_getD]at n;omega
   have t:(bV m.s c).len<p.chans.getD c.toNat 0:=by have:=y;simp only [jM,acM,aa3,abK,ab9]at this;rcases this with (k | k) | k;{exact absurd k d};{exact k.2};omega
   refine sq (drs [] rfl ?_ ?_)
   ·simp only [bV]at hlen t hb;simp [-List.getD_eq_getElem?_getD,ay,under];omega
   refine wE [(6,chM c)] [(.b 0,mO p (cO { m with val:=x} c (oD (bV m.s c) (bV m.s c).len x)))] ⟨obs rfl (hg:=q0 (ah (YO (gI h x) o (vN x (by show (bV m.s c).len.toNat<(bV m.s c).buf.length;omega))))),tt⟩ (rg [] rfl ?_)
   change Fin ..
   first
   | (
    refine aH hT [] (ts:=[]) (l:=[]) trivial trivial ⟨obs rfl (hg:=q0 (ah ?_)),tt⟩ rfl rfl rfl
    rw [iL,aaI d]
    exact iE _ _ _)
   | (
    refine aH hT [] (ts:=[]) (l:=[]) trivial trivial ⟨obs rfl (hg:=q0 (ah ?_)),tt⟩ rfl rfl rfl
    rw [iL,Y0 d,aaI f]
    have a:c.toNat<m.s.chans.length:=by rw [h.s.chans];omega
    have j:IntKind.i64.wrap ((bV (cO { m with val:=x} c (oD (bV m.s c) (bV m.s c).len x)).s c).len+1)=(bV m.s c).len+1:=by rw [jX a];exact bK (by show _<=(bV m.s c).len+1;omega) (by show (bV m.s c).len+1<_;omega)
    show (iW p (cO { m with val:=x} c (oD (bV m.s c) (bV m.s c).len x))).put [1,2,c.toNat,1] (AV.int (IntKind.i64.wrap ((bV (cO { m with val:=x} c (oD (bV m.s c) (bV m.s c).len x)).s c).len+1)))=_
    rw [j]
    refine (nG (m:=cO { m with val:=x} c (oD (bV m.s c) (bV m.s c).len x)) (by show c.toNat<(m.s.chans.set _ _).length;rw [acu];exact a) (by rw [jX a];exact su _ _)).trans ?_
    rw [wO])
   | (
    refine aH hT [] (ts:=[]) (l:=[]) trivial trivial ⟨obs rfl (hg:=q0 (ah ?_)),tt⟩ rfl rfl rfl
    rw [iL,Y0 d,Y0 f]
    exact zq _ _ _)
  ·have f:¬ 0<p.chans.getD c.toNat 0:=by simp [-List.getD_eq_getElem?_getD]at n;omega
   refine sg rfl (sq ?_)
   refine wE [(0,.ptr (.b 0) 1 0 [])] [(.b 0,mO p (cO { m with val:=x} c { bV m.s c with offer:=1,frm:=m.g,val:=x}))] ⟨obs rfl (hg:=q0 (ah (Nc (m:={ m with val:=x}) (by show c.toNat<m.s.chans.length;rw [h.s.chans];omega) (jQ _ 1) (vM _ m.g) (mG _ x)))),tt⟩ (rgs [⟨true,[.b 0],qW m,[mO p (cO { m with val:=x} c { bV m.s c with offer:=1,frm:=m.g,val:=x})]⟩] rfl ?_ ?_)
   ·have w:=rQ p (cO { m with val:=x} c { bV m.s c with offer:=1,frm:=m.g,val:=x}) h.g;have q:=bQ [.b 0] p (cO { m with val:=x} c { bV m.s c with offer:=1,frm:=m.g,val:=x});have r:=bQ (bs 1) p (cO { m with val:=x} c { bV m.s c with offer:=1,frm:=m.g,val:=x});exact au
   refine wE [(0,.ptr (.b 0) 1 0 [])] [(.b 0,mO p (eF (cO { m with val:=x} c { bV m.s c with offer:=1,frm:=m.g,val:=x}) { aC m with status:=2}))] ⟨obs rfl (hg:=q0 (ah ((ab5 (λz=>AV.put z [1,3,m.g.toNat,0] (.int 2)) (iE _ _ _)).trans (BH (uP (gI h x) c hb) (gu _ 2))))),tt⟩ (rg [] rfl ?_)
   change Fin ..
   first
   | (
    refine aH hT [] (ts:=[]) (l:=[]) trivial trivial ⟨obs rfl (hg:=q0 (ah ?_)),tt⟩ rfl rfl rfl
    rw [iL,aaI d]
    exact iE _ _ _)
   | (
    refine aH hT [] (ts:=[]) (l:=[]) trivial trivial ⟨obs rfl (hg:=q0 (ah ?_)),tt⟩ rfl rfl rfl
    rw [iL,Y0 d,aaI f]
    have a:c.toNat<m.s.chans.length:=by rw [h.s.chans];omega
    have j:IntKind.i64.wrap ((bV (cO { m with val:=x} c (oD (bV m.s c) (bV m.s c).len x)).s c).len+1)=(bV m.s c).len+1:=by rw [jX a];exact bK (by show _<=(bV m.s c).len+1;omega) (by show (bV m.s c).len+1<_;omega)
    show (iW p (cO { m with val:=x} c (oD (bV m.s c) (bV m.s c).len x))).put [1,2,c.toNat,1] (AV.int (IntKind.i64.wrap ((bV (cO { m with val:=x} c (oD (bV m.s c) (bV m.s c).len x)).s c).len+1)))=_
    rw [j]
    refine (nG (m:=cO { m with val:=x} c (oD (bV m.s c) (bV m.s c).len x)) (by show c.toNat<(m.s.chans.set _ _).length;rw [acu];exact a) (by rw [jX a];exact su _ _)).trans ?_
    rw [wO])
   | (
    refine aH hT [] (ts:=[]) (l:=[]) trivial trivial ⟨obs rfl (hg:=q0 (ah ?_)),tt⟩ rfl rfl rfl
    rw [iL,Y0 d,Y0 f]
    exact zq _ _ _)
def jE (l:List Int):List Int:=[l.getD 1 0,l.getD 2 0,l.getD 3 0,l.getD 3 0]
def dD (m:PM) (c:Int):PM×Bool :=
 if 0<(bV m.s c).len then (cO { m with val:=(bV m.s c).buf.getD 0 0} c { bV m.s c with buf:=(jE (bV m.s c).buf).set ((bV m.s c).len - 1).toNat 0,len:=(bV m.s c).len - 1},true)else
 if (bV m.s c).offer=1 then (cO { m with val:=(bV m.s c).val} c { bV m.s c with offer:=2,val:=0},true)else ({ m with val:=0},false)
theorem sV {m:PM} (h:mM m) (c:Int):mM (dD m c).1:=by
 have hb:(bV m.s c).buf.length=4:=ku h.s _;unfold dD;split
 ·exact uP (gI h _) c (by show (List.set _ _ _).length=4;rw [acu];rfl)
 split;{exact uP (gI h _) c (x:={ bV m.s c with offer:=2,val:=0}) hb};exact gI h _
theorem VB {l:List Int} (h:l.length=4):(AV.agg 54 4 λj=>bif Nat.ble 0 j&&Nat.blt j 3 then .int (l.getD (1+j) 0)else .int (l.getD j 0))=kX 54 4 .i64 (jE l):=bP λj=>by
 match j with
 | 0 | 1 | 2 | 3=>rfl
 | j+4=>exact ab5 AV.int (show l.getD (j+4) 0=0 by simp [ach (show l.length<=j+4 by omega)])
theorem Xb (p:aj) (m:PM) (c:Int) (h:mM m) (hc:0<=c/\c<4) (hlen:(bV m.s c).len<=4):AC Tryz.prog T aJ 226 [.ptr (.b 0) 1 0 [],.int c] [mO p m] (.bool (dD m c).2) [mO p (dD m c).1]:=by
 refine aX Tryz.func226 ?_;have hb:(bV m.s c).buf.length=4:=ku h.s _;have a:c.toNat<m.s.chans.length:=by rw [h.s.chans];omega
 refine sg rfl (sq (rgs [] rfl ?_ ?_))
 ·simp [-List.getD_eq_getElem?_getD,ay,under];omega
 refine sq (bk (sq (rg [] rfl ?_)));refine cd rfl (λj=>?_) (λj=>?_)
 ·(have d:0<(bV m.s c).len:=by simp [-List.getD_eq_getElem?_getD]at j;omega);refine sg rfl (sq ?_);refine wE [(5,chM c)] [(.b 0,mO p { m with val:=(bV m.s c).buf.getD 0 0})] ⟨obs rfl (hg:=q0 (ah (kP _ _ _))),tt⟩ (dr [] rfl ?_);refine sq (wE [(5,chM c)] [(.b 0,mO p (cO { m with val:=(bV m.s c).buf.getD 0 0} c { bV m.s c with buf:=jE (bV m.s c).buf}))] ⟨obs rfl (hg:=q0 (ah (nG (m:={ m with val:=(bV m.s c).buf.getD 0 0}) a ((ab5 (λz=>(dS (bV m.s c)).put [0] z) (VB hb)).trans (dB (abJ rfl)))))),tt⟩ ?_);refine rg [] rfl ?_;(have k:IntKind.i64.wrap ((bV (cO { m with val:=(bV m.s c).buf.getD 0 0} c { bV m.s c with buf:=jE (bV m.s c).buf}).s c).len - 1)=(bV m.s c).len - 1:=by rw [jX a];exact bK (by show _<=(bV m.s c).len - 1;omega) (by show (bV m.s c).len - 1<_;omega));refine wE [(5,chM c)] [(.b 0,mO p (cO { m with val:=(bV m.s c).buf.getD 0 0} c { bV m.s c with buf:=jE (bV m.s c).buf,len:=(bV m.s c).len - 1}))] ⟨obs rfl (hg:=q0 (ah ((ab5 (λz=>AV.put (iW p (cO { m with val:=(bV m.s c).buf.getD 0 0} c { bV m.s c with buf:=jE (bV m.s c).buf})) [1,2,c.toNat,1] (.int z)) k).trans ((nG (m:=cO { m with val:=(bV m.s c).buf.getD 0 0} c { bV m.s c with buf:=jE (bV m.s c).buf}) (by show c.toNat<(m.s.chans.set _ _).length;rw [acu];exact a) (by rw [jX a];exact su _ _)).trans (by rw [wO]))))),tt⟩ (drs [] rfl ?_ ?_);{(have e:(bV (cO { m with val:=(bV m.s c).buf.getD 0 0} c { bV m.s c with buf:=jE (bV m.s c).buf,len:=(bV m.s c).len - 1}).s c).len=(bV m.s c).len - 1:=by rw [jX a]);(have hA:0<=(bV (cO { m with val:=(bV m.s c).buf.getD 0 0} c { bV m.s c with buf:=jE (bV m.s c).buf,len:=(bV m.s c).len - 1}).s c).len/\(bV (cO { m with val:=(bV m.s c).buf.getD 0 0} c { bV m.s c with buf:=jE (bV m.s c).buf,len:=(bV m.s c).len - 1}).s c).len<4:=by rw [e];omega);simp only [ay,under,CG.pure];(repeat' with_reducible refine And.intro ?_ ?_);(all_goals (try with_reducible intros));all_goals (first | exact trivial | assumption | omega | exact hA | exact hA.1 | exact hA.2 | (simp;done) | grind)};refine sg rfl (rX ?_);(have e:(bV (cO { m with val:=(bV m.s c).buf.getD 0 0} c { bV m.s c with buf:=jE (bV m.s c).buf,len:=(bV m.s c).len - 1}).s c).len=(bV m.s c).len - 1:=by rw [jX a]);(have g:dD m c=(cO { m with val:=(bV m.s c).buf.getD 0 0} c { bV m.s c with buf:=(jE (bV m.s c).buf).set ((bV m.s c).len - 1).toNat 0,len:=(bV m.s c).len - 1},true):=by rw [dD,aaI d]);rw [g];refine aH hT [] (ts:=[(4,.bool true)]) (l:=[.bool true]) trivial cX ⟨obs rfl (hg:=q0 (ah ?_)),tt⟩ rfl rfl rfl;show (iW p (cO { m with val:=(bV m.s c).buf.getD 0 0} c { bV m.s c with buf:=jE (bV m.s c).buf,len:=(bV m.s c).len - 1})).put [1,2,c.toNat,0,(bV (cO { m with val:=(bV m.s c).buf.getD 0 0} c { bV m.s c with buf:=jE (bV m.s c).buf,len:=(bV m.s c).len - 1}).s c).len.toNat] (.int 0)=_;rw [e];refine (nG (m:=cO { m with val:=(bV m.s c).buf.getD 0 0} c { bV m.s c with buf:=jE (bV m.s c).buf,len:=(bV m.s c).len - 1}) (by show c.toNat<(m.s.chans.set _ _).length;rw [acu];exact a) (by rw [jX a];exact vN 0 (by show _<4;omega))).trans ?_;rw [wO]
 (have d:¬ 0<(bV m.s c).len:=by simp [-List.getD_eq_getElem?_getD]at j;exact Int.not_lt.mpr j);refine sg rfl (cd rfl (λi=>?_) (λi=>?_));{(have f:(bV m.s c).offer=1:=by simp [-List.getD_eq_getElem?_getD]at i;exact i);refine sg rfl (wE [(5,chM c)] [(.b 0,mO p { m with val:=(bV m.s c).val})] ⟨obs rfl (hg:=q0 (ah (kP _ _ _))),tt⟩ ?_);refine rg [] rfl (sg rfl ?_);refine rX ?_;(have g:dD m c=(cO { m with val:=(bV m.s c).val} c { bV m.s c with offer:=2,val:=0},true):=by rw [dD,Y0 d,aaI f]);rw [g];exact aH hT [] (ts:=[(4,.bool true)]) (l:=[.bool true]) trivial cX ⟨obs rfl (hg:=q0 (ah (BI (m:={ m with val:=(bV m.s c).val}) a (jQ _ 2) (mG _ 0)))),tt⟩ rfl rfl rfl};(have f:¬ (bV m.s c).offer=1:=by simp [-List.getD_eq_getElem?_getD]at i;exact i);refine sg rfl (sg rfl ?_);refine rX ?_;(have g:dD m c=({ m with val:=0},false):=by rw [dD,Y0 d,Y0 f]);rw [g];exact aH hT [] (ts:=[(4,.bool false)]) (l:=[.bool false]) trivial cX ⟨obs rfl (hg:=q0 (ah (kP _ _ _))),tt⟩ rfl rfl rfl
def lq (m:PM) (c:Int):PM:=eF (cO m c { bV m.s c with offer:=0,frm:=0,val:=0}) { aC m with status:=1}
def qB (m:PM) (c:Int):PM:=if (bV m.s c).offer=3 then jT (lq m c) 4 else lq m c
theorem xg {m:PM} (h:mM m) (c:Int):mM (lq m c):=WM (uP h c (x:={ bV m.s c with offer:=0,frm:=0,val:=0}) (ku h.s _)) (x:={ aC m with status:=1}) (gW h.s _)
theorem Uc (p:aj) (m:PM) (c:Int) (h:mM m) (hc:0<=c/\c<4):AC Tryz.prog T aJ 229 [.ptr (.b 0) 1 0 [],.int c] [mO p m] (.tup []) [mO p (qB m c)]:=by
 refine aX Tryz.func229 ?_;have a:c.toNat<m.s.chans.length:=by rw [h.s.chans];omega
 have hb:DJ (bV m.s c):=ku h.s _;refine sq (rgs [] rfl ?_ ?_)
 ·simp [-List.getD_eq_getElem?_getD,ay,under];omega
 refine sg rfl (sg rfl ?_);refine sq (wE [(0,.ptr (.b 0) 1 0 []),(5,.bool ((bV m.s c).offer==3))] [(.b 0,mO p (cO m c { bV m.s c with offer:=0,frm:=0,val:=0}))] ⟨obs rfl (hg:=q0 (ah (Nc a (jQ _ 0) (vM _ 0) (mG _ 0)))),tt⟩ ?_);refine rgs [⟨true,[.b 0],qW m,[mO p (cO m c { bV m.s c with offer:=0,frm:=0,val:=0})]⟩] rfl ?_ ?_
 ·have i:=rQ p (cO m c { bV m.s c with offer:=0,frm:=0,val:=0}) h.g;have e:=bQ [.b 0] p (cO m c { bV m.s c with offer:=0,frm:=0,val:=0});have f:=bQ (bs 1) p (cO m c { bV m.s c with offer:=0,frm:=0,val:=0});exact au
 refine sq (wE [(0,.ptr (.b 0) 1 0 []),(5,.bool ((bV m.s c).offer==3))] [(.b 0,mO p (lq m c))] ⟨obs rfl (hg:=q0 (ah ((ab5 (λz=>AV.put z [1,3,m.g.toNat,0] (.int 1)) (iE _ _ _)).trans (BH (uP h c (x:={ bV m.s c with offer:=0,frm:=0,val:=0}) hb) (gu _ 1))))),tt⟩ ?_);refine rg [] rfl (cd rfl (λd=>?_) (λd=>?_))
 ·have hl:(bV m.s c).offer=3:=by simpa using d
  refine rgs [⟨true,[.b 0],.tup [],[mO p (jT (lq m c) 4)]⟩] rfl ?_ ?_
  ·have i:=vY p (lq m c) 4 (xg h c);have e:=bQ [.b 0] p (lq m c);have f:=bQ (bs 1) p (jT (lq m c) 4);exact au
  change Fin ..
  first
  | (
   refine aH hT [] (ts:=[]) (l:=[]) trivial trivial ⟨obs rfl (hg:=q0 (ah ?_)),tt⟩ rfl rfl rfl
   rw [qB,aaI hl]
   exact iE _ _ _)
  | (
   refine aH hT [] (ts:=[]) (l:=[]) trivial trivial ⟨obs rfl (hg:=q0 (ah ?_)),tt⟩ rfl rfl rfl
   rw [qB,Y0 hl])
 ·have hl:¬ (bV m.s c).offer=3:=by simpa using d
  refine sk ?_
  change Fin ..
  first
  | (
   refine aH hT [] (ts:=[]) (l:=[]) trivial trivial ⟨obs rfl (hg:=q0 (ah ?_)),tt⟩ rfl rfl rfl
   rw [qB,aaI hl]
   exact iE _ _ _)
  | (
   refine aH hT [] (ts:=[]) (l:=[]) trivial trivial ⟨obs rfl (hg:=q0 (ah ?_)),tt⟩ rfl rfl rfl
   rw [qB,Y0 hl])
def nX (m:PM) (c:Int):PM:=if (bV m.s c).closed=true then jT m 5 else if (bV m.s c).offer=1 then cO m c { bV m.s c with closed:=true,offer:=3,val:=0}else cO m c { bV m.s c with closed:=true}
theorem WY (p:aj) (m:PM) (c:Int) (h:mM m) (hc:0<=c/\c<4):AC Tryz.prog T aJ 230 [.ptr (.b 0) 1 0 [],.int c] [mO p m] (.tup []) [mO p (nX m c)]:=by
 refine aX Tryz.func230 ?_;have a:c.toNat<m.s.chans.length:=by rw [h.s.chans];omega
 refine sq (rgs [] rfl ?_ ?_)
 ·simp [-List.getD_eq_getElem?_getD,ay,under];omega
 refine sq (sq (rg [] rfl ?_));refine cd rfl (λi=>?_) (λi=>?_)
 ·have d:(bV m.s c).closed=true:=i;refine sq (rgs [⟨true,[.b 0],.tup [],[mO p (jT m 5)]⟩] rfl ?_ ?_);{have o:=vY p m 5 h;have k:=bQ [.b 0] p m;have n:=bQ (bs 1) p (jT m 5);exact au};refine rX ?_;refine aH hT [] (ts:=[]) (l:=[]) trivial trivial ⟨obs rfl (hg:=q0 (ah ?_)),tt⟩ rfl rfl rfl;rw [nX,aaI d];exact iE _ _ _
 ·have d:¬ (bV m.s c).closed=true:=λe=>absurd (i.symm.trans e) (by decide)
  refine sk (sq (rg [] rfl ?_))
  refine sq ?_
  have g:(bV (cO m c { bV m.s c with closed:=true}).s c)={ bV m.s c with closed:=true}:=jX a
  refine wE [(4,chM c)] [(.b 0,mO p (cO m c { bV m.s c with closed:=true}))] ⟨obs rfl (hg:=q0 (ah (nG a (wZ _ true)))),tt⟩ (rg [] rfl ?_)
  refine cd rfl (λj=>?_) (λj=>?_)
  ·have f:(bV m.s c).offer=1:=eq_of_beq ((ab5 (λz:iM=>z.offer==1) g).symm.trans j)
   refine rg [] rfl ?_
   change Fin ..
   first
   | (
    refine aH hT [] (ts:=[]) (l:=[]) trivial trivial ⟨obs rfl (hg:=q0 (ah ?_)),tt⟩ rfl rfl rfl
    rw [nX,Y0 d,aaI f]
    refine (BI (m:=cO m c { bV m.s c with closed:=true}) (x:={ bV m.s c with closed:=true,offer:=3}) (x':={ bV m.s c with closed:=true,offer:=3,val:=0}) (by show c.toNat<(m.s.chans.set _ _).length;rw [acu];exact a) (by rw [g];exact jQ _ 3) (mG _ 0)).trans ?_
    rw [wO])
   | (
    refine aH hT [] (ts:=[]) (l:=[]) trivial trivial ⟨obs rfl (hg:=q0 (ah ?_)),tt⟩ rfl rfl rfl
    rw [nX,Y0 d,Y0 f])
  ·have f:¬ (bV m.s c).offer=1:=λe=>absurd ((beq_iff_eq.2 e).symm.trans ((ab5 (λz:iM=>z.offer==1) g).symm.trans j)) (by decide)
   refine sk ?_
   change Fin ..
   first
   | (
    refine aH hT [] (ts:=[]) (l:=[]) trivial trivial ⟨obs rfl (hg:=q0 (ah ?_)),tt⟩ rfl rfl rfl
    rw [nX,Y0 d,aaI f]
    refine (BI (m:=cO m c { bV m.s c with closed:=true}) (x:={ bV m.s c with closed:=true,offer:=3}) (x':={ bV m.s c with closed:=true,offer:=3,val:=0}) (by show c.toNat<(m.s.chans.set _ _).length;rw [acu];exact a) (by rw [g];exact jQ _ 3) (mG _ 0)).trans ?_
    rw [wO])
   | (
    refine aH hT [] (ts:=[]) (l:=[]) trivial trivial ⟨obs rfl (hg:=q0 (ah ?_)),tt⟩ rfl rfl rfl
    rw [nX,Y0 d,Y0 f])
theorem Nw {m:PM} (h:mM m) (c:Int):mM (nX m c):=by
 have hb:DJ (bV m.s c):=ku h.s _;unfold nX;split
 ·exact vS h 5
 split;{exact uP h c (x:={ bV m.s c with closed:=true,offer:=3,val:=0}) hb};exact uP h c (x:={ bV m.s c with closed:=true}) hb
theorem TW {m:PM} (h:mM m) (c:Int):mM (qB m c):=by
 unfold qB;split
 ·exact vS (xg h c) 4
 exact xg h c
def iq (b:Bool):Int:=if b then 1 else 0
theorem DK (b:Bool):AC Tryz.prog T aJ 228 [.bool b] [] (.int (iq b)) []:=by
 refine aX Tryz.func228 ?_;refine sg rfl (sq (sq (rg [] rfl ?_)));refine cd rfl (λa=>?_) (λa=>?_)
 ·refine sg rfl (rX ?_);refine bC hT (by rfl) ?_;simp_all [iq]
 refine sk (sq (rg [] rfl ?_));refine rX ?_;refine bC hT (by rfl) ?_;simp_all [iq]
abbrev setVar (m:PM) (k x:Int):PM:={ m with s:={ m.s with vars:=m.s.vars.set k.toNat x} }
abbrev uJ (m:PM) (k x:Int):PM:={ m with s:={ m.s with owner:=m.s.owner.set k.toNat x} }
abbrev dH (m:PM) (x:Int):PM:={ m with val:=x}
theorem Kt {m:PM} (h:mM m) (k x:Int):mM (setVar m k x):=⟨h.s.setVar _ _,h.g⟩
theorem Ku {m:PM} (h:mM m) (k x:Int):mM (uJ m k x):=⟨h.s.setOwn _ _,h.g⟩
theorem Gm {p:aj} {m:PM} (h:mM m) {k:Int} (hk:0<=k/\k<8) (x:Int):(iW p m).put [1,0,k.toNat] (.int x)=iW p (setVar m k x):=Ah (vJ x (by rw [h.s.vars];omega))
theorem Gn {p:aj} {m:PM} (h:mM m) {k:Int} (hk:0<=k/\k<4) (x:Int):(iW p m).put [1,1,k.toNat] (.int x)=iW p (uJ m k x):=Ah (BG x (by rw [h.s.owner];omega))
def jy (m:PM) (x:iF):PM:=if iq (jo m.s x.b==bg (aC m) x.c)=1 then setVar (dH m (iq (jo m.s x.b==bg (aC m) x.c))) x.b (bg (aC m) x.n)else dH m (iq (jo m.s x.b==bg (aC m) x.c))
def jw (m:PM) (x:iF):PM:=if iq (mg m.s x.b==0)=1 then uJ (dH m (iq (mg m.s x.b==0))) x.b (m.g+1)else dH m (iq (mg m.s x.b==0))
def rM (m:PM) (x:iF):PM:=bU (dH m (bg (aC m) x.c)) x.a (jo m.s x.b)
def bD (m:PM) (x:iF):PM×Bool :=
 if x.op=50 then (bU (dH m (jo m.s x.b)) x.a (jo m.s x.b),true)else if x.op=51 then (setVar (dH m (bg (aC m) x.b)) x.a (bg (aC m) x.b),true)else
 if x.op=52 then (setVar (rM m x) x.b (wI (jo (rM m x).s x.b+(rM m x).val)),true)else
 if x.op=53 then (bU (jy m x) x.a (iq (jo m.s x.b==bg (aC m) x.c)),true)else if x.op=54 then (dH m (bg (aC m) x.b),true)else
 if x.op=55 then (uJ m x.a (m.g+1),true)else if x.op=56 then (if mg m.s x.a≠m.g+1 then (jT m 6,true)else (uJ m x.a 0,true))else
 if x.op=57 then (bU (jw m x) x.a (iq (mg m.s x.b==0)),true)else (m,false)
theorem BM {m:PM} (h:mM m) (x:iF):mM (jy m x):=by
 unfold jy;split
 ·exact Kt (gI h _) _ _
 exact gI h _
theorem BL {m:PM} (h:mM m) (x:iF):mM (jw m x):=by
 unfold jw;split
 ·exact Ku (gI h _) _ _
 exact gI h _
theorem GK {m:PM} (h:mM m) (x:iF):mM (rM m x):=oP (gI h _) _ _
theorem Gz {m:PM} (h:mM m) (x:iF):mM (bD m x).1:=by
 unfold bD;repeat' split
 ·exact oP (gI h _) _ _
 ·exact Kt (gI h _) _ _
 ·exact Kt (GK h x) _ _
 ·exact oP (BM h x) _ _
 ·exact gI h _
 ·exact Ku h _ _
 ·exact vS h _
 ·exact Ku h _ _
 ·exact oP (BL h x) _ _
 exact h
theorem Tc (p:aj) (m:PM) (F:fV) (x:iF) (h:mM m) (hp:qy p) (hF:wG p F) (hi:x.op≠66->C9 p F x):AC Tryz.prog T aJ 224 [.ptr (.b 0) 1 0 [],aT x] [mO p m] (.bool (bD m x).2) [mO p (bD m x).1]:=by
 refine aX Tryz.func224 ?_;have hr:=hF.regs;have hv:=hp.vars;have b4:=hp.locks;have hg:=h.g;have h8:(aC m).regs.length=8:=gW h.s _;have q:IntKind.i64.wrap (m.g+1)=m.g+1:=bK (by omega) (by omega);refine sg rfl (sq ?_);refine wQ [(.s 3 0,1)] [(0,.ptr (.b 0) 1 0 []),(3,.rp 120 (aT x))] [(.b 0,mO p m)] ⟨obs rfl,tt⟩ (rgs [⟨true,[.b 0],qW m,[mO p m]⟩] rfl ?_ ?_)
 ·have j:=rQ p m h.g;have i:=bQ [.b 0] p m;have f:=bQ (bs 1) p m;exact au
 refine sq (sq ?_);refine wQ [(.s 5 0,1)] [(0,.ptr (.b 0) 1 0 []),(3,.rp 120 (aT x)),(5,.rp 52 (kX 52 8 .i64 (aC m).regs))] [(.b 0,mO p m)] ⟨obs rfl (hg:=q0 (ah (iE _ _ _))),tt⟩ (rg [] rfl ?_);refine bk (sq (rg [] rfl ?_));refine cd rfl (λh4=>?_) (λh4=>?_)
 ·(have e:x.op=50:=by simpa using h4);have hx:=(hi (by omega)).load e;simp only [iQ,aZ]at hx;refine sq (drs [] rfl ?_ ?_);{simp [-List.getD_eq_getElem?_getD,ay,under];omega};refine wE [(0,.ptr (.b 0) 1 0 []),(3,.rp 120 (aT x))] [(.b 0,mO p (dH m (jo m.s x.b)))] ⟨obs rfl (hg:=q0 (ah (kP _ _ _))),tt⟩ (drs [⟨true,[.b 0],.tup [],[mO p (bU (dH m (jo m.s x.b)) x.a (jo m.s x.b))]⟩] rfl ?_ ?_);{have j:=oJ p (dH m (jo m.s x.b)) x.a (jo m.s x.b) (gI h _) (by omega);have i:=bQ [.b 0] p (dH m (jo m.s x.b));have f:=bQ (bs 1) p (bU (dH m (jo m.s x.b)) x.a (jo m.s x.b));exact au};refine sg rfl (rX ?_);(have d:bD m x=(bU (dH m (jo m.s x.b)) x.a (jo m.s x.b),true):=by rw [bD,aaI e]);rw [d];exact aH hT [] (ts:=[(4,.bool true)]) (l:=[.bool true]) trivial cX ⟨obs rfl (hg:=q0 (ah (iE _ _ _))),tt⟩ rfl rfl rfl
 (have a4:x.op≠50:=by simpa using h4);refine sg rfl (cd rfl (λh7=>?_) (λh7=>?_));{(have e:x.op=51:=by simpa using h7);have hx:=(hi (by omega)).store (.inl e);simp only [iQ,aZ]at hx;refine sq (rgs [] rfl ?_ ?_);{simp [-List.getD_eq_getElem?_getD,ay,under];omega};refine wE [(0,.ptr (.b 0) 1 0 []),(3,.rp 120 (aT x))] [(.b 0,mO p (dH m (bg (aC m) x.b)))] ⟨obs rfl (hg:=q0 (ah (kP _ _ _))),tt⟩ (drs [] rfl ?_ ?_);{simp [-List.getD_eq_getElem?_getD,ay,under];omega};refine sg rfl (rX ?_);(have d:bD m x=(setVar (dH m (bg (aC m) x.b)) x.a (bg (aC m) x.b),true):=by simp only [bD,e];rfl);rw [d];exact aH hT [] (ts:=[(4,.bool true)]) (l:=[.bool true]) trivial cX ⟨obs rfl (hg:=q0 (ah (Gm (gI h _) (by omega) _))),tt⟩ rfl rfl rfl};(have a5:x.op≠51:=by simpa using h7);refine sg rfl (cd rfl (λr=>?_) (λr=>?_));{(have e:x.op=52:=by simpa using r);have hx:=(hi (by omega)).bump e;simp only [iQ,aZ]at hx;refine sq (rgs [] rfl ?_ ?_);{simp [-List.getD_eq_getElem?_getD,ay,under];omega};refine sq (wE [(0,.ptr (.b 0) 1 0 []),(3,.rp 120 (aT x))] [(.b 0,mO p (dH m (bg (aC m) x.c)))] ⟨obs rfl (hg:=q0 (ah (kP _ _ _))),tt⟩ ?_);refine drs [⟨true,[.b 0],.tup [],[mO p (rM m x)]⟩] rfl ?_ ?_;{have j:=oJ p (dH m (bg (aC m) x.c)) x.a (jo m.s x.b) (gI h _) (by omega);have i:=bQ [.b 0] p (dH m (bg (aC m) x.c));have f:=bQ (bs 1) p (rM m x);exact au};refine wE [(0,.ptr (.b 0) 1 0 []),(3,.rp 120 (aT x))] [(.b 0,mO p (rM m x))] ⟨obs rfl (hg:=q0 (ah (iE _ _ _))),tt⟩ (drs [] rfl ?_ ?_);{simp [-List.getD_eq_getElem?_getD,ay,under];omega};refine sg rfl (rX ?_);(have d:bD m x=(setVar (rM m x) x.b (wI (jo (rM m x).s x.b+(rM m x).val)),true):=by simp only [bD,e];rfl);rw [d];exact aH hT [] (ts:=[(4,.bool true)]) (l:=[.bool true]) trivial cX ⟨obs rfl (hg:=q0 (ah (Gm (GK h x) (by omega) _))),tt⟩ rfl rfl rfl};(have a6:x.op≠52:=by simpa using r);refine sg rfl (cd rfl (λt=>?_) (λt=>?_));{(have e:x.op=53:=by simpa using t);have hx:=(hi (by omega)).cas e;simp only [iQ,aZ]at hx;refine sq (drs [CG.pure (.int (iq (jo m.s x.b==bg (aC m) x.c)))] rfl ?_ ?_);{have j:=DK (jo m.s x.b==bg (aC m) x.c);exact au};refine sq (sq ?_);refine wE [(0,.ptr (.b 0) 1 0 []),(3,.rp 120 (aT x)),(5,.rp 52 (kX 52 8 .i64 (aC m).regs))] [(.b 0,mO p (dH m (iq (jo m.s x.b==bg (aC m) x.c))))] ⟨obs rfl (hg:=q0 (ah (kP _ _ _))),tt⟩ (rg [] rfl ?_);refine cd rfl (λu=>?_) (λu=>?_);{have o:iq (jo m.s x.b==bg (aC m) x.c)=1:=eq_of_beq u;(have k:jy m x=setVar (dH m (iq (jo m.s x.b==bg (aC m) x.c))) x.b (bg (aC m) x.n):=by rw [jy,aaI o]);refine drs [] rfl ?_ ?_;{simp [-List.getD_eq_getElem?_getD,ay,under];omega};refine wE [(0,.ptr (.b 0) 1 0 []),(3,.rp 120 (aT x))] [(.b 0,mO p (jy m x))] ⟨obs rfl (hg:=q0 (ah (by rw [k];exact Gm (gI h _) (by omega) _))),tt⟩ (drs [⟨true,[.b 0],.tup [],[mO p (bU (jy m x) x.a (iq (jo m.s x.b==bg (aC m) x.c)))]⟩] rfl ?_ ?_);{(have ev:(jy m x).val=iq (jo m.s x.b==bg (aC m) x.c):=by rw [k]);have j:=oJ p (jy m x) x.a (iq (jo m.s x.b==bg (aC m) x.c)) (BM h x) (by omega);have i:=bQ [.b 0] p (jy m x);have f:=bQ (bs 1) p (bU (jy m x) x.a (iq (jo m.s x.b==bg (aC m) x.c)));rw [<- ev]at j f ⊢;exact au};refine sg rfl (rX ?_);(have d:bD m x=(bU (jy m x) x.a (iq (jo m.s x.b==bg (aC m) x.c)),true):=by simp only [bD,e];rfl);rw [d];exact aH hT [] (ts:=[(4,.bool true)]) (l:=[.bool true]) trivial cX ⟨obs rfl (hg:=q0 (ah (iE _ _ _))),tt⟩ rfl rfl rfl};have o:¬ iq (jo m.s x.b==bg (aC m) x.c)=1:=λe=>absurd ((beq_iff_eq.2 e).symm.trans u) (by decide);(have k:jy m x=dH m (iq (jo m.s x.b==bg (aC m) x.c)):=by rw [jy,Y0 o]);refine sk (wE [(0,.ptr (.b 0) 1 0 []),(3,.rp 120 (aT x))] [(.b 0,mO p (jy m x))] ⟨obs rfl (hg:=q0 (ah (by rw [k]))),tt⟩ ?_);refine drs [⟨true,[.b 0],.tup [],[mO p (bU (jy m x) x.a (iq (jo m.s x.b==bg (aC m) x.c)))]⟩] rfl ?_ ?_;{(have ev:(jy m x).val=iq (jo m.s x.b==bg (aC m) x.c):=by rw [k]);have j:=oJ p (jy m x) x.a (iq (jo m.s x.b==bg (aC m) x.c)) (BM h x) (by omega);have i:=bQ [.b 0] p (jy m x);have f:=bQ (bs 1) p (bU (jy m x) x.a (iq (jo m.s x.b==bg (aC m) x.c)));rw [<- ev]at j f ⊢;exact au};refine sg rfl (rX ?_);(have d:bD m x=(bU (jy m x) x.a (iq (jo m.s x.b==bg (aC m) x.c)),true):=by simp only [bD,e];rfl);rw [d];exact aH hT [] (ts:=[(4,.bool true)]) (l:=[.bool true]) trivial cX ⟨obs rfl (hg:=q0 (ah (iE _ _ _))),tt⟩ rfl rfl rfl};(have a7:x.op≠53:=by simpa using t);refine sg rfl (cd rfl (λv=>?_) (λv=>?_));{(have e:x.op=54:=by simpa using v);have hx:=(hi (by omega)).store (.inr e);simp only [iQ,aZ]at hx;refine rgs [] rfl ?_ ?_;{simp [-List.getD_eq_getElem?_getD,ay,under];omega};refine sg rfl (rX ?_);(have d:bD m x=(dH m (bg (aC m) x.b),true):=by simp only [bD,e];rfl);rw [d];exact aH hT [] (ts:=[(4,.bool true)]) (l:=[.bool true]) trivial cX ⟨obs rfl (hg:=q0 (ah (kP _ _ _))),tt⟩ rfl rfl rfl};(have a8:x.op≠54:=by simpa using v);refine sg rfl (cd rfl (λw=>?_) (λw=>?_));{(have e:x.op=55:=by simpa using w);have hx:=(hi (by omega)).lock (.inl e);refine drs [] rfl ?_ ?_;{simp [-List.getD_eq_getElem?_getD,ay,under];omega};refine sg rfl (rX ?_);(have d:bD m x=(uJ m x.a (m.g+1),true):=by simp only [bD,e];rfl);rw [d];exact aH hT [] (ts:=[(4,.bool true)]) (l:=[.bool true]) trivial cX ⟨obs rfl (hg:=q0 (ah ((ab5 (λz=>(iW p m).put [1,1,x.a.toNat] (.int z)) q).trans (Gn h (by omega) _)))),tt⟩ rfl rfl rfl};(have a9:x.op≠55:=by simpa using w);refine sg rfl (cd rfl (λy=>?_) (λy=>?_));{(have e:x.op=56:=by simpa using y);have hx:=(hi (by omega)).lock (.inr e);refine sq (sq (drs [] rfl ?_ ?_));{simp [-List.getD_eq_getElem?_getD,ay,under];omega};refine cd rfl (λa0=>?_) (λa0=>?_);{(have o:mg m.s x.a≠m.g+1:=by have h9:(mg m.s x.a != IntKind.i64.wrap (m.g+1))=true:=a0;rw [q]at h9;exact bne_iff_ne.1 h9);refine sq (rgs [⟨true,[.b 0],.tup [],[mO p (jT m 6)]⟩] rfl ?_ ?_);{have j:=vY p m 6 h;have i:=bQ [.b 0] p m;have f:=bQ (bs 1) p (jT m 6);exact au};refine sg rfl (rX ?_);(have d:bD m x=(jT m 6,true):=by simp only [bD,e];exact aaI o);rw [d];exact aH hT [] (ts:=[(4,.bool true)]) (l:=[.bool true]) trivial cX ⟨obs rfl (hg:=q0 (ah (iE _ _ _))),tt⟩ rfl rfl rfl};(have o:¬ mg m.s x.a≠m.g+1:=by have h9:(mg m.s x.a != IntKind.i64.wrap (m.g+1))=false:=a0;rw [q]at h9;simpa using h9);refine sk (drs [] rfl ?_ ?_);{simp [-List.getD_eq_getElem?_getD,ay,under];omega};refine sg rfl (rX ?_);(have d:bD m x=(uJ m x.a 0,true):=by simp only [bD,e];exact Y0 o);rw [d];exact aH hT [] (ts:=[(4,.bool true)]) (l:=[.bool true]) trivial cX ⟨obs rfl (hg:=q0 (ah (Gn h (by omega) _))),tt⟩ rfl rfl rfl};(have b0:x.op≠56:=by simpa using y);refine sg rfl (cd rfl (λa1=>?_) (λa1=>?_));{(have e:x.op=57:=by simpa using a1);have hx:=(hi (by omega)).try_ e;simp only [iQ,aZ]at hx;refine sq (drs [CG.pure (.int (iq (mg m.s x.b==0)))] rfl ?_ ?_);{have j:=DK (mg m.s x.b==0);exact au};refine sq (sq ?_);refine wE [(0,.ptr (.b 0) 1 0 []),(3,.rp 120 (aT x))] [(.b 0,mO p (dH m (iq (mg m.s x.b==0))))] ⟨obs rfl (hg:=q0 (ah (kP _ _ _))),tt⟩ (rg [] rfl ?_);refine cd rfl (λa2=>?_) (λa2=>?_);{have o:iq (mg m.s x.b==0)=1:=eq_of_beq a2;(have k:jw m x=uJ (dH m (iq (mg m.s x.b==0))) x.b (m.g+1):=by rw [jw,aaI o]);refine drs [] rfl ?_ ?_;{simp [-List.getD_eq_getElem?_getD,ay,under];omega};refine wE [(0,.ptr (.b 0) 1 0 []),(3,.rp 120 (aT x))] [(.b 0,mO p (jw m x))] ⟨obs rfl (hg:=q0 (ah (by rw [k];exact (ab5 (λz=>(iW p (dH m (iq (mg m.s x.b==0)))).put [1,1,x.b.toNat] (.int z)) q).trans (Gn (gI h _) (by omega) _)))),tt⟩ (drs [⟨true,[.b 0],.tup [],[mO p (bU (jw m x) x.a (iq (mg m.s x.b==0)))]⟩] rfl ?_ ?_);{(have ev:(jw m x).val=iq (mg m.s x.b==0):=by rw [k]);have j:=oJ p (jw m x) x.a (iq (mg m.s x.b==0)) (BL h x) (by omega);have i:=bQ [.b 0] p (jw m x);have f:=bQ (bs 1) p (bU (jw m x) x.a (iq (mg m.s x.b==0)));rw [<- ev]at j f ⊢;exact au};refine sg rfl (rX ?_);(have d:bD m x=(bU (jw m x) x.a (iq (mg m.s x.b==0)),true):=by simp only [bD,e];rfl);rw [d];exact aH hT [] (ts:=[(4,.bool true)]) (l:=[.bool true]) trivial cX ⟨obs rfl (hg:=q0 (ah (iE _ _ _))),tt⟩ rfl rfl rfl};have o:¬ iq (mg m.s x.b==0)=1:=λe=>absurd ((beq_iff_eq.2 e).symm.trans a2) (by decide);(have k:jw m x=dH m (iq (mg m.s x.b==0)):=by rw [jw,Y0 o]);refine sk (wE [(0,.ptr (.b 0) 1 0 []),(3,.rp 120 (aT x))] [(.b 0,mO p (jw m x))] ⟨obs rfl (hg:=q0 (ah (by rw [k]))),tt⟩ ?_);refine drs [⟨true,[.b 0],.tup [],[mO p (bU (jw m x) x.a (iq (mg m.s x.b==0)))]⟩] rfl ?_ ?_;{(have ev:(jw m x).val=iq (mg m.s x.b==0):=by rw [k]);have j:=oJ p (jw m x) x.a (iq (mg m.s x.b==0)) (BL h x) (by omega);have i:=bQ [.b 0] p (jw m x);have f:=bQ (bs 1) p (bU (jw m x) x.a (iq (mg m.s x.b==0)));rw [<- ev]at j f ⊢;exact au};refine sg rfl (rX ?_);(have d:bD m x=(bU (jw m x) x.a (iq (mg m.s x.b==0)),true):=by simp only [bD,e];rfl);rw [d];exact aH hT [] (ts:=[(4,.bool true)]) (l:=[.bool true]) trivial cX ⟨obs rfl (hg:=q0 (ah (iE _ _ _))),tt⟩ rfl rfl rfl};(have b1:x.op≠57:=by simpa using a1);refine sg rfl (rX ?_);(have d:bD m x=(m,false):=by rw [bD,Y0 a4,Y0 a5,Y0 a6,Y0 a7,Y0 a8,Y0 a9,Y0 b0,Y0 b1]);rw [d];exact aH hT [] (ts:=[(4,.bool false)]) (l:=[.bool false]) trivial cX ⟨obs rfl,tt⟩ rfl rfl rfl
def yu (g:jm) (c:Int) (k:Nat):List Int:=(List.range 8).map λi=>if i<k then bg g (c+i)else 0
theorem Gt (g:jm) (c:Int) (k:Nat):(yu g c k).length=8:=by simp [yu]
theorem Nq {g:jm} {c:Int} {k:Nat} (h:k<8):(yu g c k).set k (bg g (c+k))=yu g c (k+1):=by
 refine List.ext_getElem (by simp [yu]) λi b a=>?_;have hi:i<8:=by simpa [yu]using a
 rw [List.getElem_set];simp only [yu,adL,ady];split
 ·subst_vars;rw [aaI (by omega)]
 by_cases e:i<k;{rw [aaI e,aaI (by omega)]};rw [Y0 e,Y0 (by omega)]
def qK (g:jm) (x:iF) (k:Nat):jm:={ status:=1,func:=x.b,pc:=0,why:=0,regs:=yu g x.c k}
abbrev qE (p:aj) (x:iF):Int:=(p.funcs.getD x.b.toNat lG).params
def jC (p:aj) (m:PM) (x:iF):PM:={ m with s:={ m.s with gos:=m.s.gos.set m.s.count.toNat (qK (aC m) x (qE p x).toNat),count:=m.s.count+1},val:=m.s.count}
def jg (p:aj) (m:PM) (x:iF):PM×Int:=if m.s.count=6 then (jT m 8,-1)else (bU (jC p m x) x.a m.s.count,m.s.count)
theorem Ak {p:aj} {m:PM} (h:mM m) (x:iF):mM (jC p m x):=⟨⟨h.s.vars,h.s.owner,h.s.chans,by show (m.s.gos.set _ _).length=6;rw [acu];exact h.s.gos,h.s.ch,λg hg=>by
 rcases acN hg with a | a
 ·exact h.s.go g a
 ·rw [a];exact Gt _ _ _⟩,h.g⟩
theorem Jj {p:aj} {m:PM} (h:mM m) (x:iF):mM (jg p m x).1:=by
 unfold jg;split
 ·exact vS h 8
 exact oP (Ak h x) _ _
theorem X5 (g:jm) (x:iF):((T 59).zero.put [0] (.int 1)).put [1] (.int x.b)=cZ (qK g x 0):=by
 rw [FH,gu,show (cZ { go0 with status:=1}).put [1] (.int x.b)=cZ { go0 with status:=1,func:=x.b}from dB (abJ rfl)];rfl
theorem Vq (p:aj) (m:PM) (F:fV) (x:iF) (h:mM m) (hp:qy p) (hF:wG p F) (hi:C9 p F x) (n:x.op=62) (a4:0<=m.s.count/\m.s.count<=6):AC Tryz.prog T aJ 232 [.ptr (.b 0) 1 0 [],aT x] [mO p m] (.int (jg p m x).2) [mO p (jg p m x).1]:=by
 refine aX Tryz.func232 ?_;have hr:=hF.regs;have hs:=hi.spawn n;have a5:=hp.funcs;simp only [iQ,aZ]at hs;have j:p.funcs.getD x.b.toNat lG∈p.funcs:=by rw [aaS,aaF (show x.b.toNat<p.funcs.length by omega)];exact abZ _
 have a9:=(hp.fn _ j).pars;have a0:=(hp.fn _ j).regs;have a8:(qE p x=0/\x.c=0)\/0<qE p x/\0<=x.c/\x.c+qE p x<=F.regs:=by have d:=hs.2.2 _ rfl;rcases d with d | d;{exact .inl d};refine .inr ⟨d.1,d.2.1,?_⟩;have h2:=d.2.2;rw [bK (by omega) (by omega)]at h2;show x.c+(p.funcs.getD x.b.toNat lG).params<=F.regs;omega
 have u:0<=qE p x/\qE p x<=8:=by show 0<=(p.funcs.getD x.b.toNat lG).params/\(p.funcs.getD x.b.toNat lG).params<=8;omega
 have a6:=h.s.gos;have a7:=h.g;refine sg rfl (sq (sq ?_));refine wQ [(.s 3 0,1)] [(0,.ptr (.b 0) 1 0 []),(3,.rp 120 (aT x))] [(.b 0,mO p m)] ⟨obs rfl,tt⟩ (rg [] rfl ?_);refine cd rfl (λd=>?_) (λd=>?_)
 ·have y:m.s.count=6:=eq_of_beq d;refine sq (rgs [⟨true,[.b 0],.tup [],[mO p (jT m 8)]⟩] rfl ?_ ?_);{have v:=vY p m 8 h;have f:=bQ [.b 0] p m;have i:=bQ (bs 1) p (jT m 8);exact au};refine sg rfl (rX ?_);(have o:jg p m x=(jT m 8,-1):=by rw [jg,aaI y]);rw [o];exact aH hT [] (ts:=[(4,.int (-1))]) (l:=[.int (-1)]) trivial cX ⟨obs rfl (hg:=q0 (ah (iE _ _ _))),tt⟩ rfl rfl rfl
 have y:¬ m.s.count=6:=λe=>absurd ((beq_iff_eq.2 e).symm.trans d) (by decide);refine sk (sq (rg [] rfl ?_));refine sq (sq (drs [] rfl ?_ ?_));{simp [-List.getD_eq_getElem?_getD,ay,under];omega};refine bk (WP.loop (α:=Nat) (λk=>aN [(0,.ptr (.b 0) 1 0 []),(3,.rp 120 (aT x)),(5,.ptr (.s 5 0) 1 0 []),(28,.int (qE p x)),(29,.int k)] [(.b 0,mO p m),(.s 5 0,.cells ⟨59,1,λ_=>cZ (qK (aC m) x k),0⟩)]) (λk=>(k:Int)<=qE p x) (λk=>8 - k) ?_ ?_);{refine ⟨0,?_,?_⟩;{exact u.1};refine eX cX ⟨obs rfl,obs rfl (hg:=q0 (ah (X5 _ _))),tt⟩};rintro k hk;refine sg rfl (sq ?_);refine cd rfl (λq=>?_) (λq=>?_);{have t:(k:Int)<qE p x:=ac6 q;have hw:IntKind.i64.wrap (x.c+(k:Int))=x.c+k:=bK (by omega) (by omega);refine sk (sq (bk (sq (rg [] rfl ?_))));refine drs [⟨true,[.b 0],qW m,[mO p m]⟩] rfl ?_ ?_;{have v:=rQ p m h.g;have f:=bQ [.b 0] p m;have i:=bQ (bs 1) p m;(have r:0<=IntKind.i64.wrap (x.c+(k:Int))/\IntKind.i64.wrap (x.c+(k:Int))<8:=by rw [hw];omega);simp only [ay,under,CG.pure];(repeat' with_reducible refine And.intro ?_ ?_);(all_goals (try with_reducible intros));all_goals (first | exact trivial | assumption | omega | exact v | exact f | exact i | exact r | exact r.1 | exact r.2 | (simp;done) | grind)};refine rg [] rfl ⟨k+1,?_,?_,?_⟩;{omega};{refine eX cX ⟨obs rfl (hg:=q0 (ah (iE _ _ _))),obs rfl (hg:=q0 (ah ((ab5 (λz:Int=>(cZ (qK (aC m) x k)).put [4,(k:Int).toNat] (.int (bg (aC m) z))) hw).trans ((kM _ (by show (k:Int).toNat<(yu _ _ _).length;rw [Gt];omega)).trans (by simp only [ab6,qK];rw [Nq (by omega)]))))),tt⟩};(try simp only []);first | omega | grind};have t:¬ (k:Int)<qE p x:=adz q;(have ek:k=(qE p x).toNat:=by omega);subst ek;refine xt (sq (rg [] rfl ?_));refine sq (drs [] rfl ?_ ?_);{simp [-List.getD_eq_getElem?_getD,ay,under];omega};refine sq (wE [(0,.ptr (.b 0) 1 0 []),(3,.rp 120 (aT x)),(7,.int m.s.count)] [(.b 0,mO p { m with s:={ m.s with gos:=m.s.gos.set m.s.count.toNat (qK (aC m) x (qE p x).toNat) } })] ⟨obs rfl (hg:=q0 (ah (Ah (mQ (by omega) (Ri _ _))))),tt⟩ ?_);refine rg [] rfl (sq ?_);have w:IntKind.i64.wrap (m.s.count+1)=m.s.count+1:=bK (by omega) (by omega);refine wE [(0,.ptr (.b 0) 1 0 []),(3,.rp 120 (aT x)),(7,.int m.s.count)] [(.b 0,mO p { m with s:={ m.s with gos:=m.s.gos.set m.s.count.toNat (qK (aC m) x (qE p x).toNat),count:=m.s.count+1} })] ⟨obs rfl (hg:=q0 (ah ((ab5 (λz=>AV.put (iW p { m with s:={ m.s with gos:=m.s.gos.set m.s.count.toNat (qK (aC m) x (qE p x).toNat) } }) [1,4] (.int z)) w).trans (Ah (wY _ _))))),tt⟩ (rg [] rfl ?_);refine sq (wE [(0,.ptr (.b 0) 1 0 []),(3,.rp 120 (aT x)),(7,.int m.s.count)] [(.b 0,mO p (jC p m x))] ⟨obs rfl (hg:=q0 (ah (kP _ _ _))),tt⟩ ?_);refine drs [⟨true,[.b 0],.tup [],[mO p (bU (jC p m x) x.a m.s.count)]⟩] rfl ?_ ?_;{have v:=oJ p (jC p m x) x.a m.s.count (Ak h x) (by omega);have f:=bQ [.b 0] p (jC p m x);have i:=bQ (bs 1) p (bU (jC p m x) x.a m.s.count);exact au};refine sg rfl (rX ?_);(have o:jg p m x=(bU (jC p m x) x.a m.s.count,m.s.count):=by rw [jg,Y0 y]);rw [o];exact aH hT [] (ts:=[(4,.int m.s.count)]) (l:=[.int m.s.count]) trivial cX ⟨obs rfl (hg:=q0 (ah (iE _ _ _))),tt⟩ rfl rfl rfl
theorem Jq (p:aj) (m:PM) (c x:Int) (h:mM m) (hc:aZ c p.chans.length) (hp:qy p) (a:jM p m.s c=true) (hlen:0<=(bV m.s c).len):AC Tryz.prog T aJ 225 [.ptr (.b 0) 1 0 [],.int c,.int x] (List.map (fK (sig [.b 0] 0)) [mO p m]) (.tup []) [mO p (iL p m c x)]:=by rw [mP];exact Xa p m c x h hc hp a hlen
theorem Jr (p:aj) (m:PM) (c:Int) (h:mM m) (hc:0<=c/\c<4) (hlen:(bV m.s c).len<=4):AC Tryz.prog T aJ 226 [.ptr (.b 0) 1 0 [],.int c] (List.map (fK (sig [.b 0] 0)) [mO p m]) (.bool (dD m c).2) [mO p (dD m c).1]:=by rw [mP];exact Xb p m c h hc hlen
def jc (p:aj) (m:PM) (q:tN) (alt:Int):PM×Int :=
 if alt=q.cases.length then (m,q.els)else
 (if (aA q alt.toNat).send=true then iL p m (aA q alt.toNat).chan (bg (aC m) (aA q alt.toNat).reg)else bU (dD m (aA q alt.toNat).chan).1 (aA q alt.toNat).reg (dD m (aA q alt.toNat).chan).1.val,(aA q alt.toNat).to)
theorem P6 {p:aj} {m:PM} (h:mM m) (q:tN) (alt:Int):mM (jc p m q alt).1:=by
 unfold jc;split
 ·exact h
 show mM (if _ then _ else _);split;{exact GH h _ _};exact oP (sV h _) _ _
def ZL (s:bW):Prop := ∀ c:Int,0<=c/\c<4->0<=(bV s c).len/\(bV s c).len<=4
theorem UG (p:aj) (m:PM) (F:fV) (q:tN) (alt:Int) (h:mM m) (hp:qy p) (hF:wG p F) (z:ZA p F q) (ha:0<=alt/\alt<=q.cases.length) (hl:ZL m.s) (hs:alt<q.cases.length->(aA q alt.toNat).send=true->jM p m.s (aA q alt.toNat).chan=true):AC Tryz.prog T aJ 231 [.ptr (.b 0) 1 0 [],jG q,.int alt] [mO p m] (.int (jc p m q alt).2) [mO p (jc p m q alt).1]:=by
 refine aX Tryz.func231 ?_;have x:=hp.chans;have hr:=hF.regs;refine sg rfl (sq (sq ?_));refine wQ [(.s 4 0,1)] [(0,.ptr (.b 0) 1 0 []),(2,.int alt),(4,.rp 103 (jG q))] [(.b 0,mO p m)] ⟨obs rfl,tt⟩ (rg [] rfl ?_);refine cd rfl (λt=>?_) (λt=>?_)
 ·have r:alt=q.cases.length:=eq_of_beq t;refine sg rfl (rX ?_);(have i:jc p m q alt=(m,q.els):=by rw [jc,aaI r]);rw [i];exact aH hT [] (ts:=[(6,.int q.els)]) (l:=[.int q.els]) trivial cX ⟨obs rfl,tt⟩ rfl rfl rfl
 have r:¬ alt=q.cases.length:=λe=>absurd ((beq_iff_eq.2 e).symm.trans t) (by decide);(have v:alt.toNat<q.cases.length:=by omega);have d:=z.case (aA q alt.toNat) (by unfold aA;rw [aaS,aaF v];exact abZ _);have j:=d.chan;(have a:0<=(aA q alt.toNat).chan/\(aA q alt.toNat).chan<4:=by unfold aZ at j;omega);refine sk (sq (rgs [] rfl ?_ ?_));{simp [-List.getD_eq_getElem?_getD,ay,under];omega};refine sq (sq ?_);refine wQ [(.s 7 0,1)] [(0,.ptr (.b 0) 1 0 []),(7,.rp 215 (qg (aA q alt.toNat)))] [(.b 0,mO p m)] ⟨obs rfl,tt⟩ (rg [] rfl ?_);refine cd rfl (λu=>?_) (λu=>?_);{have c:(aA q alt.toNat).send=true:=u;have f:=d.reg (.inl c);unfold iQ at f;refine drs [⟨true,[.b 0],qW m,[mO p m]⟩,⟨true,[.b 0],.tup [],[mO p (iL p m (aA q alt.toNat).chan (bg (aC m) (aA q alt.toNat).reg))]⟩] rfl ?_ ?_;{have o:=rQ p m h.g;have k:=bQ [.b 0] p m;have n:=bQ (bs 1) p m;have a0:=Jq p m (aA q alt.toNat).chan (bg (aC m) (aA q alt.toNat).reg) h j hp (hs (by omega) c) (hl _ a).1;have y:=bQ (bs 1) p (iL p m (aA q alt.toNat).chan (bg (aC m) (aA q alt.toNat).reg));(have hx:∀ w:Id->Id,Ob.cells ⟨263,1,λ_=>ren w (iW p m),0⟩=mO p m:=λw=>by rw [iE]);simp only [fK,hx];exact au};refine sg rfl (rX ?_);(have i:jc p m q alt=(iL p m (aA q alt.toNat).chan (bg (aC m) (aA q alt.toNat).reg),(aA q alt.toNat).to):=by rw [jc,Y0 r,aaI c]);rw [i];exact aH hT [] (ts:=[(6,.int (aA q alt.toNat).to)]) (l:=[.int (aA q alt.toNat).to]) trivial cX ⟨obs rfl (hg:=q0 (ah (iE _ _ _))),tt⟩ rfl rfl rfl};have c:¬ (aA q alt.toNat).send=true:=λe=>absurd (u.symm.trans e) (by decide);(have f:(aA q alt.toNat).reg<8:=by by_cases e:(aA q alt.toNat).reg = -1;{omega};have:=d.reg (.inr e);unfold iQ at this;omega);refine sq (rgs [⟨true,[.b 0],.bool (dD m (aA q alt.toNat).chan).2,[mO p (dD m (aA q alt.toNat).chan).1]⟩] rfl ?_ ?_);{have o:=Jr p m (aA q alt.toNat).chan h a (hl _ a).2;have k:=bQ [.b 0] p m;have n:=bQ (bs 1) p (dD m (aA q alt.toNat).chan).1;exact au};refine wE [(0,.ptr (.b 0) 1 0 []),(7,.rp 215 (qg (aA q alt.toNat)))] [(.b 0,mO p (dD m (aA q alt.toNat).chan).1)] ⟨obs rfl (hg:=q0 (ah (iE _ _ _))),tt⟩ (drs [⟨true,[.b 0],.tup [],[mO p (bU (dD m (aA q alt.toNat).chan).1 (aA q alt.toNat).reg (dD m (aA q alt.toNat).chan).1.val)]⟩] rfl ?_ ?_);{have o:=oJ p (dD m (aA q alt.toNat).chan).1 (aA q alt.toNat).reg (dD m (aA q alt.toNat).chan).1.val (sV h _) f;have k:=bQ [.b 0] p (dD m (aA q alt.toNat).chan).1;have n:=bQ (bs 1) p (bU (dD m (aA q alt.toNat).chan).1 (aA q alt.toNat).reg (dD m (aA q alt.toNat).chan).1.val);exact au};refine sg rfl (rX ?_);(have i:jc p m q alt=(bU (dD m (aA q alt.toNat).chan).1 (aA q alt.toNat).reg (dD m (aA q alt.toNat).chan).1.val,(aA q alt.toNat).to):=by rw [jc,Y0 r,Y0 c]);rw [i];exact aH hT [] (ts:=[(6,.int (aA q alt.toNat).to)]) (l:=[.int (aA q alt.toNat).to]) trivial cX ⟨obs rfl (hg:=q0 (ah (iE _ _ _))),tt⟩ rfl rfl rfl
theorem Jc {m:PM} {x:iF} (h:(bD m x).2=false):(bD m x).1=m/\(x.op≠50/\x.op≠51/\x.op≠52/\x.op≠53/\x.op≠54/\x.op≠55/\x.op≠56/\x.op≠57):=by
 unfold bD at h ⊢;by_cases a:x.op=50
 ·rw [aaI a]at h;cases h
 rw [Y0 a]at h ⊢;by_cases b:x.op=51
 ·rw [aaI b]at h;cases h
 rw [Y0 b]at h ⊢;by_cases c:x.op=52
 ·rw [aaI c]at h;cases h
 rw [Y0 c]at h ⊢;by_cases d:x.op=53
 ·rw [aaI d]at h;cases h
 rw [Y0 d]at h ⊢;by_cases e:x.op=54
 ·rw [aaI e]at h;cases h
 rw [Y0 e]at h ⊢;by_cases f:x.op=55
 ·rw [aaI f]at h;cases h
 rw [Y0 f]at h ⊢;by_cases g:x.op=56
 ·rw [aaI g]at h;split at h <;> cases h
 rw [Y0 g]at h ⊢;by_cases i:x.op=57
 ·rw [aaI i]at h;cases h
 rw [Y0 i];exact ⟨rfl,a,b,c,d,e,f,g,i⟩
def pG (p:aj) (m:PM) (x:iF) (alt:Int):PM×Int×Int :=
 if (bD m x).2=true then ((bD m x).1,(aC m).pc+1,-1)else
 if x.op=58 then (iL p m x.a (bg (aC m) x.b),(aC m).pc+1,-1)else
 if x.op=59 then (bU (bU (dD m x.b).1 x.a (dD m x.b).1.val) x.c (iq (dD m x.b).2),(aC m).pc+1,-1)else
 if x.op=66 then (qB m x.a,(aC m).pc+1,-1)else if x.op=60 then (nX m x.a,(aC m).pc+1,-1)else
 if x.op=61 then ((jc p m (aO (bM p (aC m)) x.a.toNat) alt).1,(jc p m (aO (bM p (aC m)) x.a.toNat) alt).2,-1)else
 if x.op=62 then ((jg p m x).1,(aC m).pc+1,(jg p m x).2)else
 if x.op=63 then (if jB m.s m.g (bg (aC m) x.a)=true then dH m (bg (aC m) x.a)else jT (dH m (bg (aC m) x.a)) 7,(aC m).pc+1,-1)else
 if x.op=65 then (dH m (bg (aC m) x.a),(aC m).pc+1,-1)else (m,(aC m).pc+1,-1)
theorem tK {p:aj} {s:bW} {q:tN} {x:Int}:∀ {k:Nat},x∈fG p s q k ↔ ∃ j:Nat,j<k/\x=j/\wB p s (aA q j)=true
 | 0=>by simp [fG]
 | k+1=>by rw [fG,kD];constructor;{intro h;split at h;{rename_i hb;rcases List.mem_append.1 h with h | h;{obtain ⟨j,c,a,b⟩:=tK.1 h;exact ⟨j,by omega,a,b⟩};exact ⟨k,by omega,by simpa using h,hb⟩};obtain ⟨j,c,a,b⟩:=tK.1 h;exact ⟨j,by omega,a,b⟩};rintro ⟨j,c,a,b⟩;by_cases e:j=k;{subst e;rw [aaI b];simp [a]};have:x∈fG p s q k:=(tK (k:=k)).2 ⟨j,by omega,a,b⟩;split;{exact acW _ this};exact this
theorem zH {p:aj} {s:bW} {g alt:Int} (a:alt∈iJ p s g) (h:(aU p s g).op≠61):iR p s g=true/\alt=0:=by
 rw [iJ,aaI h]at a;split at a
 ·rename_i b;exact ⟨b,by simpa using a⟩
 cases a
theorem CW {p:aj} {s:bW} {g alt:Int} (b:alt∈iJ p s g) (h:(aU p s g).op=61):(0<=alt/\alt<=(bJ p s g).cases.length)/\(alt<(bJ p s g).cases.length->wB p s (aA (bJ p s g) alt.toNat)=true):=by
 rw [iJ,Y0 (by simp [h]),kD]at b;have key:alt∈fG p s (bJ p s g) (bJ p s g).cases.length->(0<=alt/\alt<=(bJ p s g).cases.length)/\(alt<(bJ p s g).cases.length->wB p s (aA (bJ p s g) alt.toNat)=true):=λhm=>by obtain ⟨j,a,c,d⟩:=tK.1 hm;exact ⟨by omega,λ_=>by rw [c,ab6];exact d⟩
 split at b
 ·rcases List.mem_append.1 b with a | a;{exact key a};(have c:alt=(bJ p s g).cases.length:=by simpa using a);exact ⟨by omega,λd=>by omega⟩
 exact key b
theorem Rx {p:aj} {s:bW} (f:dG p s):ZL s:=λc hc=>by
 have hp:=jZ f.1;have b:=f.2.2.2.2.2.1 c.toNat (by omega)
 by_cases d:c.toNat<p.chans.length
 ·have a:=(b.1 d).1.1;have g:=hp.caps (uX p c.toNat) (by simp [uX,d])
  exact ⟨a.1,Int.le_trans a.2 g.2⟩
 ·have a:=b.2 (by omega);have e:bV s c=AU:=a
  rw [e];decide
def jA (s:bW) (g n:Int):PM:=⟨s,g,n,0,false⟩
theorem aaZ (p:aj) (s:bW) (g n alt:Int) (h:eH p s g) (ha:alt∈iJ p s g):AC Tryz.prog T aJ 161 [.ptr (.b 0) 1 0 [],aT (aU p s g),.int alt] [mO p (jA s g n)] (.tup [.int (pG p (jA s g n) (aU p s g) alt).2.1,.int (pG p (jA s g n) (aU p s g) alt).2.2]) [mO p (pG p (jA s g n) (aU p s g) alt).1]:=by
 refine aX Tryz.func161 ?_;have hp:=h.prog;have hF:=h.fn;have w:=h.at;have hr:=hF.regs;have d1:=hp.chans;have hi:(aU p s g).op≠66->C9 p (bM p (goI s g)) (aU p s g):=λe=>by rw [w.ins e];exact h.ins
 have d:mM (jA s g n):=⟨h.ok,h.pos⟩;have o:=Rx h.valid;have c5:=h.fit.2.2.1;have d2:=hF.code;unfold aZ at c5;have hw:IntKind.i64.wrap ((goI s g).pc+1)=(goI s g).pc+1:=bK (by omega) (by omega);obtain ⟨m,hm⟩:∃ m,jA s g n=m:=⟨_,rfl⟩;have t:m.s=s:=by rw [<- hm];rfl
 have d6:m.g=g:=by rw [<- hm];rfl
 have a0:aC m=goI s g:=by rw [<- hm];rfl
 obtain ⟨x,hx⟩:∃ x,aU p s g=x:=⟨_,rfl⟩;rw [hm]at d ⊢;rw [hx]at hi ⊢;rw [<- a0]at hw;have h8:(aC m).regs.length=8:=gW d.s _;refine sg rfl (sq ?_);refine wQ [(.s 4 0,1)] [(0,.ptr (.b 0) 1 0 []),(2,.int alt),(4,.rp 120 (aT x))] [(.b 0,mO p m)] ⟨obs rfl,tt⟩ (rgs [⟨true,[.b 0],qW m,[mO p m]⟩] rfl ?_ ?_)
 ·have u:=rQ p m d.g;have i:=bQ [.b 0] p m;have j:=bQ (bs 1) p m;exact au
 refine sq (sq ?_);refine wT [(0,.ptr (.b 0) 1 0 []),(2,.int alt),(4,.rp 120 (aT x)),(6,.int ((aC m).pc+1)),(7,.int (-1))] [(.b 0,mO p m)] ⟨cq,cq,cq,⟨rfl,_,rfl,ah (ab5 AV.int hw)⟩,cq,tt⟩ ⟨obs rfl (hg:=q0 (ah (iE _ _ _))),tt⟩ (rgs [⟨true,[.b 0],.bool (bD m x).2,[mO p (bD m x).1]⟩] rfl ?_ ?_)
 ·(have u:AC Tryz.prog T aJ 224 [.ptr (.b 0) 1 0 [],aT x] (List.map (fK (sig [.b 0] 0)) [mO p m]) (.bool (bD m x).2) [mO p (bD m x).1]:=by rw [mP];exact Tc p m _ x d hp hF hi);have i:=bQ [.b 0] p m;have j:=bQ (bs 1) p (bD m x).1;have hz:ren (sig [.b 0] 0) (aT x)=aT x:=bP (λq=>by match q with | 0 | 1 | 2 | 3 | 4 | q+5=>rfl);rw [<- hz]at u;exact au
 refine cd rfl (λh2=>?_) (λh2=>?_)
 ·have f:(bD m x).2=true:=h2;refine sg rfl (rX ?_);(have k:pG p m x alt=((bD m x).1,(aC m).pc+1,-1):=by rw [pG,aaI f]);rw [k];exact aH hT [] (ts:=[(6,.int ((aC m).pc+1)),(7,.int (-1))]) (l:=[.int ((aC m).pc+1),.int (-1)]) trivial cX ⟨obs rfl (hg:=q0 (ah (iE _ _ _))),tt⟩ rfl rfl rfl
 have f:(bD m x).2=false:=h2;obtain ⟨c8,d7,d8,d9,e0,e1,e2,e3,e4⟩:=Jc f;(have c6:¬ (bD m x).2=true:=by rw [f];decide);refine sk (sq ?_);refine wE [(0,.ptr (.b 0) 1 0 []),(2,.int alt),(4,.rp 120 (aT x)),(6,.int ((aC m).pc+1)),(7,.int (-1))] [(.b 0,mO p m)] ⟨obs rfl (hg:=q0 (ah ((iE _ _ _).trans (by rw [c8])))),tt⟩ (rgs [⟨true,[.b 0],qW m,[mO p m]⟩] rfl ?_ ?_);{have u:=rQ p m d.g;have i:=bQ [.b 0] p m;have j:=bQ (bs 1) p m;exact au};refine sq (sq ?_);refine wQ [(.s 8 0,1)] [(0,.ptr (.b 0) 1 0 []),(2,.int alt),(4,.rp 120 (aT x)),(6,.int ((aC m).pc+1)),(7,.int (-1)),(8,.rp 52 (kX 52 8 .i64 (aC m).regs))] [(.b 0,mO p m)] ⟨obs rfl (hg:=q0 (ah (iE _ _ _))),tt⟩ (rg [] rfl ?_);refine bk (sq (rg [] rfl ?_));refine cd rfl (λh6=>?_) (λh6=>?_);{(have e:x.op=58:=by simpa using h6);have hb:=w.send;rw [hx]at hb;have hb:=hb (.inl e);(have c7:jM p m.s x.a=true:=by have h1:=(zH ha (by rw [hx];omega)).1;unfold iR at h1;rw [hx]at h1;simp only [e]at h1;rw [t];exact h1);have r:=((hi (by omega)).send e).2;have v:=hb;unfold iQ at r;unfold aZ at v;refine drs [⟨true,[.b 0],.tup [],[mO p (iL p m x.a (bg (aC m) x.b))]⟩] rfl ?_ ?_;{have u:=Jq p m x.a (bg (aC m) x.b) d hb hp c7 (by rw [t];exact (o x.a (by omega)).1);have i:=bQ [.b 0] p m;have j:=bQ (bs 1) p (iL p m x.a (bg (aC m) x.b));exact au};refine sg rfl (rX ?_);(have k:pG p m x alt=(iL p m x.a (bg (aC m) x.b),(aC m).pc+1,-1):=by simp only [pG,f,e];rfl);rw [k];exact aH hT [] (ts:=[(6,.int ((aC m).pc+1)),(7,.int (-1))]) (l:=[.int ((aC m).pc+1),.int (-1)]) trivial cX ⟨obs rfl (hg:=q0 (ah (iE _ _ _))),tt⟩ rfl rfl rfl};(have b6:x.op≠58:=by simpa using h6);refine sg rfl (cd rfl (λh8=>?_) (λh8=>?_));{(have e:x.op=59:=by simpa using h8);have r:=(hi (by omega)).recv e;simp only [iQ,aZ]at r;refine sq (rgs [⟨true,[.b 0],.bool (dD m x.b).2,[mO p (dD m x.b).1]⟩] rfl ?_ ?_);{have u:=Jr p m x.b d (by omega) (by rw [t];exact (o x.b (by omega)).2);have i:=bQ [.b 0] p m;have j:=bQ (bs 1) p (dD m x.b).1;exact au};refine sq (wE [(0,.ptr (.b 0) 1 0 []),(4,.rp 120 (aT x)),(6,.int ((aC m).pc+1)),(7,.int (-1)),(9,.bool (dD m x.b).2)] [(.b 0,mO p (dD m x.b).1)] ⟨obs rfl (hg:=q0 (ah (iE _ _ _))),tt⟩ ?_);refine drs [⟨true,[.b 0],.tup [],[mO p (bU (dD m x.b).1 x.a (dD m x.b).1.val)]⟩] rfl ?_ ?_;{have u:=oJ p (dD m x.b).1 x.a (dD m x.b).1.val (sV d _) (by omega);have i:=bQ [.b 0] p (dD m x.b).1;have j:=bQ (bs 1) p (bU (dD m x.b).1 x.a (dD m x.b).1.val);exact au};refine wE [(0,.ptr (.b 0) 1 0 []),(4,.rp 120 (aT x)),(6,.int ((aC m).pc+1)),(7,.int (-1)),(9,.bool (dD m x.b).2)] [(.b 0,mO p (bU (dD m x.b).1 x.a (dD m x.b).1.val))] ⟨obs rfl (hg:=q0 (ah (iE _ _ _))),tt⟩ (drs [CG.pure (.int (iq (dD m x.b).2)),⟨true,[.b 0],.tup [],[mO p (bU (bU (dD m x.b).1 x.a (dD m x.b).1.val) x.c (iq (dD m x.b).2))]⟩] rfl ?_ ?_);{have e5:=DK (dD m x.b).2;have u:=oJ p (bU (dD m x.b).1 x.a (dD m x.b).1.val) x.c (iq (dD m x.b).2) (oP (sV d _) _ _) (by omega);have i:=bQ [.b 0] p (bU (dD m x.b).1 x.a (dD m x.b).1.val);have j:=bQ (bs 1) p (bU (bU (dD m x.b).1 x.a (dD m x.b).1.val) x.c (iq (dD m x.b).2));exact au};refine sg rfl (rX ?_);(have k:pG p m x alt=(bU (bU (dD m x.b).1 x.a (dD m x.b).1.val) x.c (iq (dD m x.b).2),(aC m).pc+1,-1):=by simp only [pG,f,e];rfl);rw [k];exact aH hT [] (ts:=[(6,.int ((aC m).pc+1)),(7,.int (-1))]) (l:=[.int ((aC m).pc+1),.int (-1)]) trivial cX ⟨obs rfl (hg:=q0 (ah (iE _ _ _))),tt⟩ rfl rfl rfl};(have b7:x.op≠59:=by simpa using h8);refine sg rfl (cd rfl (λa2=>?_) (λa2=>?_));{(have e:x.op=66:=by simpa using a2);have hb:=w.send;rw [hx]at hb;have v:=hb (.inr (.inr e));unfold aZ at v;refine rgs [⟨true,[.b 0],.tup [],[mO p (qB m x.a)]⟩] rfl ?_ ?_;{(have u:AC Tryz.prog T aJ 229 [.ptr (.b 0) 1 0 [],.int x.a] (List.map (fK (sig [.b 0] 0)) [mO p m]) (.tup []) [mO p (qB m x.a)]:=by rw [mP];exact Uc p m x.a d (by omega));have i:=bQ [.b 0] p m;have j:=bQ (bs 1) p (qB m x.a);exact au};refine sg rfl (rX ?_);(have k:pG p m x alt=(qB m x.a,(aC m).pc+1,-1):=by simp only [pG,f,e];rfl);rw [k];exact aH hT [] (ts:=[(6,.int ((aC m).pc+1)),(7,.int (-1))]) (l:=[.int ((aC m).pc+1),.int (-1)]) trivial cX ⟨obs rfl (hg:=q0 (ah (iE _ _ _))),tt⟩ rfl rfl rfl};(have c3:x.op≠66:=by simpa using a2);refine sg rfl (cd rfl (λa3=>?_) (λa3=>?_));{(have e:x.op=60:=by simpa using a3);have hb:=w.send;rw [hx]at hb;have v:=hb (.inr (.inl e));unfold aZ at v;refine rgs [⟨true,[.b 0],.tup [],[mO p (nX m x.a)]⟩] rfl ?_ ?_;{(have u:AC Tryz.prog T aJ 230 [.ptr (.b 0) 1 0 [],.int x.a] (List.map (fK (sig [.b 0] 0)) [mO p m]) (.tup []) [mO p (nX m x.a)]:=by rw [mP];exact WY p m x.a d (by omega));have i:=bQ [.b 0] p m;have j:=bQ (bs 1) p (nX m x.a);exact au};refine sg rfl (rX ?_);(have k:pG p m x alt=(nX m x.a,(aC m).pc+1,-1):=by simp only [pG,f,e];rfl);rw [k];exact aH hT [] (ts:=[(6,.int ((aC m).pc+1)),(7,.int (-1))]) (l:=[.int ((aC m).pc+1),.int (-1)]) trivial cX ⟨obs rfl (hg:=q0 (ah (iE _ _ _))),tt⟩ rfl rfl rfl};(have b8:x.op≠60:=by simpa using a3);refine sg rfl (cd rfl (λa4=>?_) (λa4=>?_));{(have e:x.op=61:=by simpa using a4);have a1:=h.sel (by rw [hx];exact e);have y:=CW ha (by rw [hx];exact e);simp only [bJ,hx]at a1 y;rw [<- a0]at a1 y;have b3:=a1.1;have a9:=h.fit.2.1;rw [<- a0]at a9;unfold aZ at b3 a9;refine drs [⟨true,[.b 0],qW m,[]⟩,⟨true,[.b 0],.int (jc p m (aO (bM p (aC m)) x.a.toNat) alt).2,[mO p (jc p m (aO (bM p (aC m)) x.a.toNat) alt).1]⟩] rfl ?_ ?_;{(have e6:AC Tryz.prog T aJ 162 [.ptr (.b 0) 1 0 []] (List.map (fK (sig [.b 0] 0)) [mO p m]) (qW m) (List.map (fK (sig [.b 0] 0)) [mO p m]):=by rw [mP];exact PV p m d.g);(have d4:List.map (fK (SQ [.b 0])) (List.map (fK (sig [.b 0] 0)) [mO p m])=[mO p m]:=by rw [mP,mP]);have i:=bQ [.b 0] p m;(have j:kU (bs 1) (List.map (fK (sig [.b 0] 0)) [mO p m]):=by rw [mP];exact bQ _ p m);(have e7:AC Tryz.prog T aJ 231 [.ptr (.b 0) 1 0 [],ren (sig [.b 0] 0) (jG (aO (bM p (aC m)) x.a.toNat)),.int alt] (List.map (fK (sig [.b 0] 0)) [mO p m]) (.int (jc p m (aO (bM p (aC m)) x.a.toNat) alt).2) [mO p (jc p m (aO (bM p (aC m)) x.a.toNat) alt).1]:=by have hz:ren (sig [.b 0] 0) (jG (aO (bM p (aC m)) x.a.toNat))=jG (aO (bM p (aC m)) x.a.toNat):=bP (λq=>by match q with | 0 | 1 | q+2=>rfl);rw [mP,hz];refine UG p m (bM p (aC m)) _ alt d hp (by rw [a0];exact hF) a1.2 y.1 (by rw [t];exact o) (λh1 h2=>?_);have h3:=y.2 h1;rw [wB,h2]at h3;rw [t];simpa using h3);have d5:=bQ (bs 1) p (jc p m (aO (bM p (aC m)) x.a.toNat) alt).1;simp only [bM,aC,goI]at b3 a9;exact au};refine sg rfl (rX ?_);(have k:pG p m x alt=((jc p m (aO (bM p (aC m)) x.a.toNat) alt).1,(jc p m (aO (bM p (aC m)) x.a.toNat) alt).2,-1):=by simp only [pG,f,e];rfl);rw [k];exact aH hT [] (ts:=[(6,.int ((jc p m (aO (bM p (aC m)) x.a.toNat) alt).2)),(7,.int (-1))]) (l:=[.int ((jc p m (aO (bM p (aC m)) x.a.toNat) alt).2),.int (-1)]) trivial cX ⟨obs rfl (hg:=q0 (ah (iE _ _ _))),tt⟩ rfl rfl rfl};(have b9:x.op≠61:=by simpa using a4);refine sg rfl (cd rfl (λa5=>?_) (λa5=>?_));{(have e:x.op=62:=by simpa using a5);refine rgs [⟨true,[.b 0],.int (jg p m x).2,[mO p (jg p m x).1]⟩] rfl ?_ ?_;{have d3:=h.valid.2.1;(have u:AC Tryz.prog T aJ 232 [.ptr (.b 0) 1 0 [],aT x] (List.map (fK (sig [.b 0] 0)) [mO p m]) (.int (jg p m x).2) [mO p (jg p m x).1]:=by rw [mP];exact Vq p m _ x d hp hF (hi (by omega)) e (by rw [t];omega));have i:=bQ [.b 0] p m;have j:=bQ (bs 1) p (jg p m x).1;have hz:ren (sig [.b 0] 0) (aT x)=aT x:=bP (λq=>by match q with | 0 | 1 | 2 | 3 | 4 | q+5=>rfl);rw [<- hz]at u;exact au};refine sg rfl (rX ?_);(have k:pG p m x alt=((jg p m x).1,(aC m).pc+1,(jg p m x).2):=by simp only [pG,f,e];rfl);rw [k];exact aH hT [] (ts:=[(6,.int ((aC m).pc+1)),(7,.int ((jg p m x).2))]) (l:=[.int ((aC m).pc+1),.int ((jg p m x).2)]) trivial cX ⟨obs rfl (hg:=q0 (ah (iE _ _ _))),tt⟩ rfl rfl rfl};(have c0:x.op≠62:=by simpa using a5);refine sg rfl (cd rfl (λa6=>?_) (λa6=>?_));{(have e:x.op=63:=by simpa using a6);have r:=(hi (by omega)).const (by omega);unfold iQ at r;refine sq (rgs [] rfl ?_ ?_);{simp [-List.getD_eq_getElem?_getD,ay,under];omega};refine sq (wE [(0,.ptr (.b 0) 1 0 []),(6,.int ((aC m).pc+1)),(7,.int (-1))] [(.b 0,mO p (dH m (bg (aC m) x.a)))] ⟨obs rfl (hg:=q0 (ah (kP _ _ _))),tt⟩ ?_);refine drs [CG.pure (.bool (jB m.s m.g (bg (aC m) x.a)))] rfl ?_ ?_;{have u:=FU m.s m.g (bg (aC m) x.a);exact au};refine cd rfl (λa7=>?_) (λa7=>?_);{(have b0:¬ jB m.s m.g (bg (aC m) x.a)=true:=by simpa using a7);refine rgs [⟨true,[.b 0],.tup [],[mO p (jT (dH m (bg (aC m) x.a)) 7)]⟩] rfl ?_ ?_;{have u:=vY p (dH m (bg (aC m) x.a)) 7 (gI d _);have i:=bQ [.b 0] p (dH m (bg (aC m) x.a));have j:=bQ (bs 1) p (jT (dH m (bg (aC m) x.a)) 7);exact au};refine sg rfl (rX ?_);(have k:pG p m x alt=(jT (dH m (bg (aC m) x.a)) 7,(aC m).pc+1,-1):=by simp only [pG,f,e];exact ab5 (λz=>(z,_,_)) (Y0 b0));rw [k];exact aH hT [] (ts:=[(6,.int ((aC m).pc+1)),(7,.int (-1))]) (l:=[.int ((aC m).pc+1),.int (-1)]) trivial cX ⟨obs rfl (hg:=q0 (ah (iE _ _ _))),tt⟩ rfl rfl rfl};(have b0:jB m.s m.g (bg (aC m) x.a)=true:=by simpa using a7);refine sk (sq (rg [] rfl ?_));refine rX ?_;(have k:pG p m x alt=(dH m (bg (aC m) x.a),(aC m).pc+1,-1):=by simp only [pG,f,e];exact ab5 (λz=>(z,_,_)) (aaI b0));rw [k];exact aH hT [] (ts:=[(6,.int ((aC m).pc+1)),(7,.int (-1))]) (l:=[.int ((aC m).pc+1),.int (-1)]) trivial cX ⟨obs rfl (hg:=q0 (ah (rfl))),tt⟩ rfl rfl rfl};(have c1:x.op≠63:=by simpa using a6);refine sg rfl (cd rfl (λa8=>?_) (λa8=>?_));{(have e:x.op=65:=by simpa using a8);have r:=(hi (by omega)).const (by omega);unfold iQ at r;refine rgs [] rfl ?_ ?_;{simp [-List.getD_eq_getElem?_getD,ay,under];omega};refine sg rfl (rX ?_);(have k:pG p m x alt=(dH m (bg (aC m) x.a),(aC m).pc+1,-1):=by simp only [pG,f,e];rfl);rw [k];exact aH hT [] (ts:=[(6,.int ((aC m).pc+1)),(7,.int (-1))]) (l:=[.int ((aC m).pc+1),.int (-1)]) trivial cX ⟨obs rfl (hg:=q0 (ah (kP _ _ _))),tt⟩ rfl rfl rfl};(have c2:x.op≠65:=by simpa using a8);refine sk (sq (rg [] rfl ?_));refine rX ?_;(have k:pG p m x alt=(m,(aC m).pc+1,-1):=by rw [pG,Y0 c6,Y0 b6,Y0 b7,Y0 c3,Y0 b8,Y0 b9,Y0 c0,Y0 c1,Y0 c2]);rw [k];exact aH hT [] (ts:=[(6,.int ((aC m).pc+1)),(7,.int (-1))]) (l:=[.int ((aC m).pc+1),.int (-1)]) trivial cX ⟨obs rfl (hg:=q0 (ah (rfl))),tt⟩ rfl rfl rfl
def Ql (L:List Int) (x:Int):Int:=if x∈L then (L.findIdx (· == x):Nat)else -1
theorem Zi {L:List Int} {x:Int} {i:Nat} (hi:i<L.length) (h:L.getD i 0=x) (hn:∀ j,j<i->L.getD j 0≠x):(i:Int)=Ql L x:=by
 have hm:x∈L:=by rw [<- h];simp [aaS,hi]
 rw [Ql,aaI hm];congr 1;symm;rw [List.findIdx_eq hi];refine ⟨by simpa [aaS,hi]using h,λj b=>?_⟩;have a:j<L.length:=by omega
 have:=hn j b;simpa [aaS,a]using this
theorem Zh {L:List Int} {x:Int} (hn:∀ j,j<L.length->L.getD j 0≠x) : -1=Ql L x:=by
 rw [Ql,Y0];intro hm;obtain ⟨j,a,e⟩:=List.getElem_of_mem hm;exact hn j a (by simpa [aaS,a]using e)
theorem Xi (f:Bool) (L:List Int) (x:Int):AC Tryz.prog T aJ 218 [ints f L,.int x] [] (.int (Ql L x)) []:=by
 refine aX Tryz.func218 ?_;refine WP.rowlen 0 rfl (λd=>?_);refine sg rfl (sq (sq (rg [] rfl ?_)));refine bk (WP.loop (α:=Nat) (λi=>aN [(0,ints f L),(1,.int x),(7,.int L.length),(8,.int i)] []) (λi=>i<=L.length /\ ∀ j,j<i->L.getD j 0≠x) (λi=>L.length - i) ?_ ?_)
 ·refine ⟨0,?_,?_⟩;{exact ⟨abr _,λj g=>by omega⟩};refine eX cX trivial
 rintro i ⟨hi,hn⟩;refine sg rfl (sq ?_);refine cd rfl (λb=>?_) (λb=>?_);{(have a:i<L.length:=by simpa using b);refine sk (sq (bk (sq (rg [] rfl ?_))));refine sg rfl (cd rfl (λc=>?_) (λc=>?_));{(have he:L.getD i 0=x:=by have e:(x==L.getD i 0)=true:=c;simp at e;exact e.symm);exact sg rfl (WP.ret (bC hT (by rfl) (Zi a he hn)))};(have he:L.getD i 0≠x:=by have e:(x==L.getD i 0)=false:=c;simp at e;exact λh=>e h.symm);refine sk (rg [] rfl ?_);refine ⟨i+1,?_,?_,?_⟩;{exact ⟨a,all_succ (Q:=λj=>L.getD j 0≠x) hn he⟩};{refine eX cX trivial};(try simp only []);first | omega | grind};(have a:i=L.length:=by simp at b;omega);subst a;refine xt (sq (rg [] rfl ?_));exact WP.ret (bC hT (by rfl) (Zh hn))
theorem Ou (f:Bool) (L:List Int) (x:Int):AC Tryz.prog T aJ 159 [ints f L,.int x] [] (.bool (decide (x∈L))) []:=by
 refine aX Tryz.func159 ?_;refine sg rfl (sq (rgs [CG.pure (.int (Ql L x))] rfl ?_ ?_))
 ·have b:=Xi f L x;exact au
 refine rX ?_;refine fin1 hT (by rfl) ?_;apply decide_eq_decide.2;rw [Ql];split
 ·rename_i h;exact ⟨λ_=>h,λ_=>by omega⟩
 rename_i h;exact ⟨λa=>by omega,λa=>absurd a h⟩
def xZ (p:aj) (s:bW) (x:bF):Prop:=(0<=x.go/\x.go<6)/\qw (goI s x.go)=true/\x.alt∈iJ p s x.go
instance (p:aj) (s:bW) (x:bF):Decidable (xZ p s x):=by unfold xZ;infer_instance
def qY (p:aj) (m:PM) (next made:Int):PM :=
 if m.over=true then m else if 0<=made then gX p (gX p (eF m { aC m with pc:=next}) m.g) made else gX p (eF m { aC m with pc:=next}) m.g
def nS (p:aj) (s:bW) (x:bF) (n:Int):PM×Int×Int:=pG p (jA s x.go n) (aU p s x.go) x.alt
def kR (p:aj) (s:bW) (x:bF) (val:Int):zV:=⟨x.go,(goI s x.go).func,(goI s x.go).pc,(aU p s x.go).op,x.alt,val,if (aU p s x.go).op=65 then (aU p s x.go).n else 0,(dU p s x.go).map BT.t,(dU p s x.go).length⟩
def jO (p:aj) (s:bW) (x:bF) (n:Int):bW×zV×Int :=
 if nR p s≠0 then (st0,uU,nR p s)else if ¬ (0<=n/\n<=4096)then (st0,uU,1)else if ¬ xZ p s x then (st0,uU,5)else
 ((qY p (nS p s x n).1 (nS p s x n).2.1 (nS p s x n).2.2).s,kR p s x (nS p s x n).1.val,0)
theorem zeroE:(T 137).zero=gy uU:=rfl
theorem Uy {l:List Yn} {t:Yn} (h:l.length<6):(XQ l).put [l.length] (uV t)=XQ (l++[t]):=bP λj=>by
 show (bif Nat.beq j l.length then _ else _)=_;cases b:Nat.beq j l.length with
 | true =>
  have:=abe b;subst this;simp [aaS];cases t;rfl
 | false =>
  have c:j≠l.length:=λe=>by subst e;simp at b
  simp only [aci];show uV (l.getD j aad)=uV ((l++[t]).getD j aad)
  rcases acf j l.length with a | a
  ·simp only [aaS,abY a]
  ·simp only [aaS,ach (show l.length<=j by omega),ach (show (l++[t]).length<=j by simp;omega)]
theorem Rj (e:zV) {t:Yn} (h:e.ts.length<6):(gy e).put [7,e.ts.length] (uV t)=gy { e with ts:=e.ts++[t] }:=(dB (abJ rfl)).trans (ab5 (λz=>bI 137 [.int e.go,.int e.a,.int e.b,.int e.op,.int e.c,.int e.val,.int e.tag,z,.int e.n]) (Uy h))
theorem Wx (e:zV) (x:Int):(gy e).put [8] (.int x)=gy { e with n:=x}:=dB (abJ rfl)
theorem Nh (e:zV) (x:Int):(gy e).put [5] (.int x)=gy { e with val:=x}:=dB (abJ rfl)
theorem Nj (e:zV) (x:Int):(gy e).put [6] (.int x)=gy { e with tag:=x}:=dB (abJ rfl)
theorem Si (a b c d e:Int):(((((gy uU).put [0] (.int a)).put [1] (.int b)).put [2] (.int c)).put [3] (.int d)).put [4] (.int e)=gy ⟨a,b,c,d,e,0,0,[],0⟩:=by
 rw [show (gy uU).put [0] (.int a)=gy { uU with go:=a}from dB (abJ rfl),show (gy { uU with go:=a}).put [1] (.int b)=gy { uU with go:=a,a:=b}from dB (abJ rfl),
  show (gy { uU with go:=a,a:=b}).put [2] (.int c)=gy { uU with go:=a,a:=b,b:=c}from dB (abJ rfl),show (gy { uU with go:=a,a:=b,b:=c}).put [3] (.int d)=gy { uU with go:=a,a:=b,b:=c,op:=d}from dB (abJ rfl),
  show (gy { uU with go:=a,a:=b,b:=c,op:=d}).put [4] (.int e)=gy { uU with go:=a,a:=b,b:=c,op:=d,c:=e}from dB (abJ rfl)];rfl
theorem FQ {p:aj} {s:bW} {g:Int} (h:eH p s g):(dU p s g).length<=5:=by
 have a:=Ij jK (jh (iD p s g)) (jh (iD p s g)).length;have b:(jh (iD p s g)).length=(iD p s g).length:=sO LU _;have c:=MX h;rw [dU];omega
def mY (p:aj) (s:bW) (x:bF) (k:Nat):zV:=⟨x.go,(goI s x.go).func,(goI s x.go).pc,(aU p s x.go).op,x.alt,0,0,((dU p s x.go).take k).map BT.t,k⟩
theorem GI {s:bW} (h:mZ s) {g n:Int} (hg:0<=g/\g<6):mM (jA s g n):=⟨h,hg⟩
theorem Ro {p:aj} {m:PM} (h:mM m) (x:iF) (alt:Int):mM (pG p m x alt).1:=by
 unfold pG;repeat' split
 ·exact Gz h x
 ·exact GH h _ _
 ·exact oP (oP (sV h _) _ _) _ _
 ·exact TW h _
 ·exact Nw h _
 ·exact P6 h _ _
 ·exact Jj h x
 ·exact gI h _
 ·exact vS (gI h _) _
 ·exact gI h _
 exact h
theorem rW {p:aj} {s:bW} (h:mZ s) (g n:Int):mZ (bY p s g n).1:=by
 unfold bY;split
 ·exact pU
 rename_i b;have b:dX p=true:=by simpa using b
 split
 ·exact pU
 rename_i c;have c:dG p s:=by simpa using c
 split
 ·exact pU
 rename_i hg;split
 ·exact pU
 rename_i hc;split
 ·have a:=(c.2.2.2.2.1 g.toNat (by omega)).1 (by omega)
  have hF:wG p (bM p (goI s g)):=(jZ b).fn _ (by
   rw [bM,aaS,aaF (show (goI s g).func.toNat<p.funcs.length by have d:0<=(goI s g).func/\(goI s g).func<p.funcs.length:=a.2.1;omega)]
   exact abZ _)
  exact h.eF (J5 hF (g:={ goI s g with status:=1}) ⟨gW h _,a.2.2.1⟩).1.1
 exact h
theorem XR (p:aj) (s:bW) (g n:Int):((((T 263).zero.put [0] (ak p)).put [1] (encS s)).put [2] (.int g)).put [3] (.int n)=iW p (jA s g n):=bP λq=>by match q with | 0 | 1 | 2 | 3 | 4 | 5 | q+6=>rfl
theorem XW (p:aj) (s:bW) (x:bF) (n:Int) (hs:mZ s):AC Tryz.prog T aJ 113 [ak p,encS s,bn x,.int n] [] (.tup [encS (jO p s x n).1,gy (jO p s x n).2.1,.int (jO p s x n).2.2]) []:=by
 refine aX Tryz.func113 ?_;refine sg rfl (sq (sq ?_));refine WP.ent (st':=aN [(4,.rp 26 (ak p)),(5,.rp 62 (encS s)),(6,.rp 122 (bn x)),(3,.int n),(8,.ptr (.s 8 0) 1 0 []),(9,.ptr (.s 9 0) 1 0 [])] [(.s 8 0,.cells ⟨62,1,λ_=>(T 62).zero,0⟩),(.s 9 0,.cells ⟨137,1,λ_=>(T 137).zero,0⟩)]) (em [(.s 4 0,1),(.s 5 0,1),(.s 6 0,1)] ⟨sF,sF,sF,tt⟩ ⟨rq,rq,rq,cq,cq,cq,tt⟩ ⟨obs rfl,obs rfl,tt⟩) ?_;refine rgs [CG.pure (.int (nR p s))] rfl ?_ ?_
 ·have hq:=OI p s hs;exact au
 refine sg rfl (cd rfl (λh2=>?_) (λh2=>?_))
 ·(have f:nR p s≠0:=by simpa using h2);refine sg rfl (rX ?_);exact xH hT rfl rfl rfl rfl rfl (ah (by rw [jO,aaI f];exact zeroS)) (ah (by rw [jO,aaI f];exact zeroE)) (by rw [jO,aaI f]) (hno':=pW _)
 (have f:¬ nR p s≠0:=by simpa using h2);have hv:dG p s:=aaU (by simpa using f);refine sk (sq (sq (rg [] rfl ?_)));refine cd rfl (λh4=>?_) (λh4=>?_);{(have hf:¬ (0<=n/\n<=4096):=by simp only [fM]at h4;simp at h4;omega);refine sg rfl (rX ?_);exact xH hT rfl rfl rfl rfl rfl (ah (by rw [jO,Y0 f,aaI hf];exact zeroS)) (ah (by rw [jO,Y0 f,aaI hf];exact zeroE)) (by rw [jO,Y0 f,aaI hf]) (hno':=pW _)};(have hf:0<=n/\n<=4096:=by simp only [fM]at h4;simp at h4;omega);have i:¬ ¬ (0<=n/\n<=4096):=λh=>h hf;refine sk (sq (sq (drs [CG.pure (.bool (qw (goI s x.go))),CG.pure (ints false (iJ p s x.go)),CG.pure (.bool (decide (x.alt∈iJ p s x.go)))] rfl ?_ ?_)));{have b5:0<=x.go/\x.go<6->_:=λh=>L6 s x.go h;have b6:0<=x.go/\x.go<6->qw (goI s x.go)=true->_:=λh h'=>SE p s x.go ⟨hs,hv,h',h⟩;have b7:=Ou false (iJ p s x.go) x.alt;simp only [ay,under,CG.pure];(repeat' with_reducible refine And.intro ?_ ?_);(all_goals (try with_reducible intros));all_goals (first | exact trivial | assumption | exact b7 | (refine b5 ?_;simp_all <;> omega) | (refine b6 ?_ ?_ <;> simp_all <;> omega) | (simp_all;done))};refine cd rfl (λh6=>?_) (λh6=>?_);{(have hp:¬ xZ p s x:=by simp only [fM]at h6;intro h;have a:=h.1;have b:=h.2.1;have c:=h.2.2;simp only [goI]at b;rw [show decide (x.go<0)=false from ab3 (by omega),show decide (x.go>=6)=false from ab3 (by omega),acj c]at h6;simp [-List.getD_eq_getElem?_getD,b]at h6);refine sg rfl (rX ?_);exact xH hT rfl rfl rfl rfl rfl (ah (by rw [jO,Y0 f,Y0 i,aaI hp];exact zeroS)) (ah (by rw [jO,Y0 f,Y0 i,aaI hp];exact zeroE)) (by rw [jO,Y0 f,Y0 i,aaI hp]) (hno':=pW _)};(have hp:xZ p s x:=by simp only [fM]at h6;simp [-List.getD_eq_getElem?_getD]at h6;exact ⟨by omega,by simp_all,by simp_all⟩);have a4:¬ ¬ xZ p s x:=λh=>h hp;have o:eH p s x.go:=⟨hs,hv,hp.2.1,hp.1⟩;have b4:=hp.1;refine sk (sq (rgs [CG.pure (aT (aU p s x.go))] rfl ?_ ?_));{have hq:=SA p s x.go o;exact au};refine sq (drs [] rfl ?_ ?_);{simp [-List.getD_eq_getElem?_getD,ay,under];omega};refine sq (sq ?_);refine wQ [(.s 12 0,1)] [(3,.int n),(4,.rp 26 (ak p)),(5,.rp 62 (encS s)),(6,.rp 122 (bn x)),(8,.ptr (.s 8 0) 1 0 []),(9,.ptr (.s 9 0) 1 0 []),(12,.rp 120 (aT (aU p s x.go))),(13,.ptr (.s 13 0) 1 0 [])] [(.s 8 0,.cells ⟨62,1,λ_=>(T 62).zero,0⟩),(.s 9 0,.cells ⟨137,1,λ_=>(T 137).zero,0⟩),(.s 13 0,.cells ⟨137,1,λ_=>gy (mY p s x 0),0⟩)] ⟨obs rfl,obs rfl,obs rfl (hg:=q0 (ah (Si _ _ _ _ _))),tt⟩ (rgs [CG.pure (rowP 134 fH jK (dU p s x.go))] rfl ?_ ?_);{have hq:=Vm p s x.go o;exact au};refine bk (WP.loop (α:=Nat) (λk=>aN [(3,.int n),(4,.rp 26 (ak p)),(5,.rp 62 (encS s)),(6,.rp 122 (bn x)),(8,.ptr (.s 8 0) 1 0 []),(9,.ptr (.s 9 0) 1 0 []),(12,.rp 120 (aT (aU p s x.go))),(13,.ptr (.s 13 0) 1 0 []),(91,rowP 134 fH jK (dU p s x.go)),(92,.int (dU p s x.go).length),(93,.int k)] [(.s 8 0,.cells ⟨62,1,λ_=>(T 62).zero,0⟩),(.s 9 0,.cells ⟨137,1,λ_=>(T 137).zero,0⟩),(.s 13 0,.cells ⟨137,1,λ_=>gy (mY p s x k),0⟩)]) (λk=>k<=(dU p s x.go).length) (λk=>(dU p s x.go).length - k) ?_ ?_);{refine ⟨0,?_,?_⟩;{exact abr _};refine eX cX ⟨obs rfl,obs rfl,obs rfl,tt⟩};rintro k hk;have c4:=FQ o;refine sg rfl (sq ?_);refine cd rfl (λu=>?_) (λu=>?_);{(have l:k<(dU p s x.go).length:=by simp [-List.getD_eq_getElem?_getD]at u;omega);(have b8:(mY p s x k).ts.length=k:=by show (((dU p s x.go).take k).map BT.t).length=k;rw [acK,ab7];omega);refine sk (sq (bk (sq (rgs [] rfl ?_ ?_))));{simp [-List.getD_eq_getElem?_getD,ay,under];omega};refine sq (rgs [] rfl ?_ ?_);{(have a2:0<=(mY p s x k).n/\(mY p s x k).n<6:=by show 0<=(k:Int)/\(k:Int)<6;omega);simp only [ay,under,CG.pure];(repeat' with_reducible refine And.intro ?_ ?_);(all_goals (try with_reducible intros));all_goals (first | exact trivial | assumption | omega | exact a2 | exact a2.1 | exact a2.2 | (simp;done) | grind)};refine wE [(3,.int n),(4,.rp 26 (ak p)),(5,.rp 62 (encS s)),(6,.rp 122 (bn x)),(8,.ptr (.s 8 0) 1 0 []),(9,.ptr (.s 9 0) 1 0 []),(12,.rp 120 (aT (aU p s x.go))),(13,.ptr (.s 13 0) 1 0 []),(91,rowP 134 fH jK (dU p s x.go)),(92,.int (dU p s x.go).length),(93,.int k)] [(.s 8 0,.cells ⟨62,1,λ_=>(T 62).zero,0⟩),(.s 9 0,.cells ⟨137,1,λ_=>(T 137).zero,0⟩),(.s 13 0,.cells ⟨137,1,λ_=>gy { mY p s x k with ts:=(mY p s x k).ts++[((dU p s x.go).getD k jK).t] },0⟩)] ⟨obs rfl,obs rfl,obs rfl (hg:=q0 (ah ((ab5 (λz:Nat=>(gy (mY p s x k)).put [7,z] (uV ((dU p s x.go).getD k jK).t)) (show ((mY p s x k).n).toNat=(mY p s x k).ts.length by rw [b8];exact ab6 k)).trans (Rj (mY p s x k) (by omega))))),tt⟩ (rg [] rfl ?_);refine rg [] rfl ?_;(have e2:gy { mY p s x k with ts:=(mY p s x k).ts++[((dU p s x.go).getD k jK).t],n:=(k:Int)+1}=gy (mY p s x (k+1)):=by(have e3:(mY p s x k).ts++[((dU p s x.go).getD k jK).t]=(mY p s x (k+1)).ts:=by show ((dU p s x.go).take k).map BT.t++_=((dU p s x.go).take (k+1)).map BT.t;rw [ac7,aaF l,adP];simp [l]);rw [e3];rfl);have hw:IntKind.i64.wrap ((mY p s x k).n+1)=(k:Int)+1:=bK (by show _<=(k:Int)+1;omega) (by show (k:Int)+1<_;omega);refine ⟨k+1,?_,?_,?_⟩;{exact l};{refine eX cX ⟨obs rfl,obs rfl,obs rfl (hg:=q0 (ah ((ab5 (λz:Int=>(gy { mY p s x k with ts:=(mY p s x k).ts++[((dU p s x.go).getD k jK).t] }).put [8] (.int z)) hw).trans ((Wx _ _).trans e2)))),tt⟩};(try simp only []);first | omega | grind};(have l:k=(dU p s x.go).length:=by simp [-List.getD_eq_getElem?_getD]at u;omega);obtain ⟨d,j⟩:∃ d,nS p s x n=d:=⟨_,rfl⟩;(have e:mM d.1:=by rw [<- j];exact Ro (GI hs b4) _ _);refine xt (sq (rg [] rfl ?_));refine sq (wE [(4,.rp 26 (ak p)),(5,.rp 62 (encS s)),(6,.rp 122 (bn x)),(8,.ptr (.s 8 0) 1 0 []),(9,.ptr (.s 9 0) 1 0 []),(12,.rp 120 (aT (aU p s x.go))),(13,.ptr (.s 13 0) 1 0 []),(16,.ptr (.s 113 0) 1 0 [])] [(.s 8 0,.cells ⟨62,1,λ_=>(T 62).zero,0⟩),(.s 9 0,.cells ⟨137,1,λ_=>(T 137).zero,0⟩),(.s 13 0,.cells ⟨137,1,λ_=>gy (mY p s x k),0⟩),(.s 113 0,mO p (jA s x.go n))] ⟨obs rfl,obs rfl,obs rfl,obs rfl (hg:=q0 (ah (XR p s x.go n))),tt⟩ ?_);refine rgs [⟨true,[.s 113 0],.tup [.int d.2.1,.int d.2.2],[mO p d.1]⟩] rfl ?_ ?_;{(have hq:AC Tryz.prog T aJ 161 [.ptr (.b 0) 1 0 [],ren (sig [.s 113 0] 0) (aT (aU p s x.go)),.int x.alt] (List.map (fK (sig [.s 113 0] 0)) [mO p (jA s x.go n)]) (.tup [.int d.2.1,.int d.2.2]) [mO p d.1]:=by have hz:ren (sig [.s 113 0] 0) (aT (aU p s x.go))=aT (aU p s x.go):=bP (λq=>by match q with | 0 | 1 | 2 | 3 | 4 | q+5=>rfl);rw [mP,hz,<- j];exact aaZ p s x.go n x.alt o hp.2.2);have a0:=bQ [.s 113 0] p (jA s x.go n);have a1:=bQ (bs 1) p d.1;exact au};refine sq (wE [(8,.ptr (.s 8 0) 1 0 []),(9,.ptr (.s 9 0) 1 0 []),(12,.rp 120 (aT (aU p s x.go))),(13,.ptr (.s 13 0) 1 0 []),(16,.ptr (.s 113 0) 1 0 []),(17,.int d.2.1),(18,.int d.2.2)] [(.s 8 0,.cells ⟨62,1,λ_=>(T 62).zero,0⟩),(.s 9 0,.cells ⟨137,1,λ_=>(T 137).zero,0⟩),(.s 13 0,.cells ⟨137,1,λ_=>gy (mY p s x k),0⟩),(.s 113 0,mO p d.1)] ⟨obs rfl,obs rfl,obs rfl,obs rfl (hg:=q0 (ah (iE _ _ _))),tt⟩ ?_);refine rg [] rfl (WP.seqJ (α:=Unit) (λ_=>aN [(8,.ptr (.s 8 0) 1 0 []),(9,.ptr (.s 9 0) 1 0 []),(13,.ptr (.s 13 0) 1 0 []),(16,.ptr (.s 113 0) 1 0 []),(17,.int d.2.1),(18,.int d.2.2)] [(.s 8 0,.cells ⟨62,1,λ_=>(T 62).zero,0⟩),(.s 9 0,.cells ⟨137,1,λ_=>(T 137).zero,0⟩),(.s 13 0,.cells ⟨137,1,λ_=>gy (kR p s x d.1.val),0⟩),(.s 113 0,mO p d.1)]) (λ_=>True) ?_ ?_);{refine sq ?_;(have ee:∀ t:Int,gy { mY p s x k with val:=d.1.val,tag:=t}=gy ⟨x.go,(goI s x.go).func,(goI s x.go).pc,(aU p s x.go).op,x.alt,d.1.val,t,(dU p s x.go).map BT.t,(dU p s x.go).length⟩:=λt=>by rw [mY,l,acU]);refine wE [(8,.ptr (.s 8 0) 1 0 []),(9,.ptr (.s 9 0) 1 0 []),(12,.rp 120 (aT (aU p s x.go))),(13,.ptr (.s 13 0) 1 0 []),(16,.ptr (.s 113 0) 1 0 []),(17,.int d.2.1),(18,.int d.2.2)] [(.s 8 0,.cells ⟨62,1,λ_=>(T 62).zero,0⟩),(.s 9 0,.cells ⟨137,1,λ_=>(T 137).zero,0⟩),(.s 13 0,.cells ⟨137,1,λ_=>gy { mY p s x k with val:=d.1.val},0⟩),(.s 113 0,mO p d.1)] ⟨obs rfl,obs rfl,obs rfl (hg:=q0 (ah (Nh _ _))),obs rfl,tt⟩ (rg [] rfl ?_);refine cd rfl (λv=>?_) (λv=>?_);{(have r:(aU p s x.go).op=65:=by simpa using v);refine rg [] rfl ⟨(),?_,?_⟩;{trivial};refine eX cX ⟨obs rfl,obs rfl,obs rfl (hg:=q0 (ah ((Nj _ _).trans ((ee _).trans (by rw [kR,aaI r]))))),obs rfl,tt⟩};(have r:¬ (aU p s x.go).op=65:=by simpa using v);refine sk ⟨(),?_,?_⟩;{trivial};refine eX cX ⟨obs rfl,obs rfl,obs rfl (hg:=q0 (ah ((ee 0).trans (by rw [kR,Y0 r])))),obs rfl,tt⟩};rintro _ b2;refine sq (sq ?_);(have b3:d.1.g.toNat<d.1.s.gos.length:=by rw [e.s.gos];have:=e.g;omega);refine rg [] rfl (cd rfl (λw=>?_) (λw=>?_));{(have m:¬ d.1.over=true:=by simpa using w);refine sq (rgs [⟨true,[.s 113 0],.ptr (.b 0) 1 0 [1,3,d.1.g.toNat],[mO p d.1]⟩] rfl ?_ ?_);{(have hq:AC Tryz.prog T aJ 162 [.ptr (.b 0) 1 0 []] (List.map (fK (sig [.s 113 0] 0)) [mO p d.1]) (qW d.1) [mO p d.1]:=by rw [mP];exact PV p d.1 e.g);have a0:=bQ [.s 113 0] p d.1;have a1:=bQ (bs 1) p d.1;exact au};refine sq (wE [(8,.ptr (.s 8 0) 1 0 []),(9,.ptr (.s 9 0) 1 0 []),(13,.ptr (.s 13 0) 1 0 []),(16,.ptr (.s 113 0) 1 0 []),(18,.int d.2.2)] [(.s 8 0,.cells ⟨62,1,λ_=>(T 62).zero,0⟩),(.s 9 0,.cells ⟨137,1,λ_=>(T 137).zero,0⟩),(.s 13 0,.cells ⟨137,1,λ_=>gy (kR p s x d.1.val),0⟩),(.s 113 0,mO p (eF d.1 { aC d.1 with pc:=d.2.1}))] ⟨obs rfl,obs rfl,obs rfl,obs rfl (hg:=q0 (ah ((ab5 (λz=>AV.put z [1,3,d.1.g.toNat,2] (.int d.2.1)) (iE _ _ _)).trans (Nb b3 (pO _ _))))),tt⟩ ?_);refine rgs [⟨true,[.s 113 0],.tup [],[mO p (gX p (eF d.1 { aC d.1 with pc:=d.2.1}) d.1.g)]⟩] rfl ?_ ?_;{(have hq:AC Tryz.prog T aJ 163 [.ptr (.b 0) 1 0 [],.int d.1.g] (List.map (fK (sig [.s 113 0] 0)) [mO p (eF d.1 { aC d.1 with pc:=d.2.1})]) (.tup []) [mO p (gX p (eF d.1 { aC d.1 with pc:=d.2.1}) d.1.g)]:=by rw [mP];exact GN p _ _ (e.s.eF (x:={ aC d.1 with pc:=d.2.1}) (gW e.s _)));have a0:=bQ [.s 113 0] p (eF d.1 { aC d.1 with pc:=d.2.1});have a1:=bQ (bs 1) p (gX p (eF d.1 { aC d.1 with pc:=d.2.1}) d.1.g);exact au};refine sq (wE [(8,.ptr (.s 8 0) 1 0 []),(9,.ptr (.s 9 0) 1 0 []),(13,.ptr (.s 13 0) 1 0 []),(16,.ptr (.s 113 0) 1 0 []),(18,.int d.2.2)] [(.s 8 0,.cells ⟨62,1,λ_=>(T 62).zero,0⟩),(.s 9 0,.cells ⟨137,1,λ_=>(T 137).zero,0⟩),(.s 13 0,.cells ⟨137,1,λ_=>gy (kR p s x d.1.val),0⟩),(.s 113 0,mO p (gX p (eF d.1 { aC d.1 with pc:=d.2.1}) d.1.g))] ⟨obs rfl,obs rfl,obs rfl,obs rfl (hg:=q0 (ah (iE _ _ _))),tt⟩ ?_);refine rg [] rfl (cd rfl (λy=>?_) (λy=>?_));{have a3:0<=d.2.2:=ac6 y;refine rgs [⟨true,[.s 113 0],.tup [],[mO p (gX p (gX p (eF d.1 { aC d.1 with pc:=d.2.1}) d.1.g) d.2.2)]⟩] rfl ?_ ?_;{(have hq:AC Tryz.prog T aJ 163 [.ptr (.b 0) 1 0 [],.int d.2.2] (List.map (fK (sig [.s 113 0] 0)) [mO p (gX p (eF d.1 { aC d.1 with pc:=d.2.1}) d.1.g)]) (.tup []) [mO p (gX p (gX p (eF d.1 { aC d.1 with pc:=d.2.1}) d.1.g) d.2.2)]:=by rw [mP];exact GN p _ _ (rW (e.s.eF (x:={ aC d.1 with pc:=d.2.1}) (gW e.s _)) _ _));have a0:=bQ [.s 113 0] p (gX p (eF d.1 { aC d.1 with pc:=d.2.1}) d.1.g);have a1:=bQ (bs 1) p (gX p (gX p (eF d.1 { aC d.1 with pc:=d.2.1}) d.1.g) d.2.2);exact au};refine sq (dr [] rfl ?_);refine rX ?_;(have er:qY p d.1 d.2.1 d.2.2=gX p (gX p (eF d.1 { aC d.1 with pc:=d.2.1}) d.1.g) d.2.2:=by rw [qY,Y0 m,aaI a3]);(have ed:jO p s x n=((gX p (gX p (eF d.1 { aC d.1 with pc:=d.2.1}) d.1.g) d.2.2).s,kR p s x d.1.val,0):=by rw [jO,Y0 f,Y0 i,Y0 a4,j,er]);rw [ed];exact xH hT rfl rfl rfl rfl rfl (ah (qo _ _)) (ah rfl) rfl (hno':=pW _)};have a3:¬ 0<=d.2.2:=adz y;refine sk (sq (dr [] rfl ?_));refine rX ?_;(have er:qY p d.1 d.2.1 d.2.2=gX p (eF d.1 { aC d.1 with pc:=d.2.1}) d.1.g:=by rw [qY,Y0 m,Y0 a3]);(have ed:jO p s x n=((gX p (eF d.1 { aC d.1 with pc:=d.2.1}) d.1.g).s,kR p s x d.1.val,0):=by rw [jO,Y0 f,Y0 i,Y0 a4,j,er]);rw [ed];exact xH hT rfl rfl rfl rfl rfl (ah (rfl)) (ah rfl) rfl (hno':=pW _)};(have m:d.1.over=true:=by simpa using w);refine sk (sq (dr [] rfl ?_));refine rX ?_;(have er:qY p d.1 d.2.1 d.2.2=d.1:=by rw [qY,aaI m]);(have ed:jO p s x n=((d.1).s,kR p s x d.1.val,0):=by rw [jO,Y0 f,Y0 i,Y0 a4,j,er]);rw [ed];exact xH hT rfl rfl rfl rfl rfl (ah (rfl)) (ah rfl) rfl (hno':=pW _)
structure gq where
 steps:Int
 fuel:Int
 runs:Int
def cu (b:gq):AV:=bI 28 [.int b.steps,.int b.fuel,.int b.runs]
def uj (b:gq):Prop:=(0<=b.steps/\b.steps<=256)/\(0<=b.fuel/\b.fuel<=4096)/\(0<=b.runs/\b.runs<=65536)
instance (b:gq):Decidable (uj b):=by unfold uj;infer_instance
def inB (n m:Int):Bool:=decide (0<=n/\n<=m)
theorem Ho (n m:Int):AC Tryz.prog T aJ 112 [.int n,.int m] [] (.bool (inB n m)) []:=by
 refine aX Tryz.func112 ?_;refine sg rfl (sg rfl ?_);refine rX ?_;refine fin1 hT (by rfl) ?_;simp only [band];rw [inB,abT];simp
def fZ (p:aj) (n:Int) (b:gq):Int:=if dX p=false then 3 else if 256<n then 2 else if ¬ uj b then 6 else 0
theorem QY (p:aj) (n:Int) (b:gq):AC Tryz.prog T aJ 66 [ak p,.int n,cu b] [] (.int (fZ p n b)) []:=by
 refine aX Tryz.func66 ?_;refine sg rfl (sq (sq ?_));refine WP.ent (st':=aN [(3,.rp 26 (ak p)),(5,.rp 28 (cu b)),(1,.int n)] []) (em [(.s 3 0,1),(.s 5 0,1)] ⟨sF,sF,tt⟩ ⟨rq,rq,cq,tt⟩ trivial) ?_;refine rgs [CG.pure (y7 p)] rfl ?_ ?_
 ·have m:=Dy p;exact au
 refine sg rfl (cd rfl (λe=>?_) (λe=>?_))
 ·(have g:dX p=false:=by simp at e;simp [dX];exact e);exact sg rfl (WP.ret (bC hT (by rfl) (by rw [fZ,aaI g])))
 (have g:¬ dX p=false:=by simp at e;simp [dX];exact e);refine sk (sq (sq (rg [] rfl ?_)));refine cd rfl (λi=>?_) (λi=>?_);{(have hn:256<n:=by simpa using i);exact sg rfl (WP.ret (bC hT (by rfl) (by rw [fZ,Y0 g,aaI hn])))};(have hn:¬ 256<n:=by simp at i;omega);refine sk (sq (rg [] rfl ?_));refine sq (sq (rgs [CG.pure (.bool (inB b.steps 256)),CG.pure (.bool (inB b.fuel 4096)),CG.pure (.bool (inB b.runs 65536))] rfl ?_ ?_));{have j:=Ho b.steps 256;have k:=Ho b.fuel 4096;have l:=Ho b.runs 65536;exact au};refine cd rfl (λf=>?_) (λf=>?_);{(have hb:¬ uj b:=by simp only [fM,inB]at f;intro ⟨a,c,d⟩;simp at f;omega);exact sg rfl (WP.ret (bC hT (by rfl) (by rw [fZ,Y0 g,Y0 hn,aaI hb])))};have hb:¬ ¬ uj b:=λh=>h (by simp only [fM,inB]at f;simp at f;exact ⟨by omega,by omega,by omega⟩);refine sk (sq (rg [] rfl ?_));exact WP.ret (bC hT (by rfl) (by rw [fZ,Y0 g,Y0 hn,Y0 hb]))
theorem N8 {p:aj} {n:Int} {b:gq} (h:fZ p n b=0):dX p=true/\n<=256/\uj b:=by
 unfold fZ at h;split at h
 ·cases h
 rename_i a;split at h
 ·cases h
 rename_i d;split at h
 ·cases h
 rename_i c;exact ⟨by simpa using a,by omega,by simpa using c⟩
theorem VT (x:bF) (n:Int):AC Tryz.prog T aJ 175 [bn x,.rp 3 (.int n)] [] (.bool (x.go==n)) []:=by
 refine aX Tryz.func175 ?_;refine sg rfl (sg rfl ?_);exact WP.ret (fin1 hT (by rfl) rfl)
def mX (l:List bF) (n:Int):Int:=if l.any (λx=>x.go==n)then (l.findIdx (λx=>x.go==n):Nat)else -1
theorem Xv {l:List bF} {n:Int} {i:Nat} (hi:i<l.length) (h:((l.getD i eU).go==n)=true) (hn:∀ j,j<i->((l.getD j eU).go==n)=false):mX l n=i:=by
 have e:l.getD i eU=l[i]:=by simp [hi]
 have hm:l.any (λx=>x.go==n)=true:=List.any_eq_true.2 ⟨l[i],abZ hi,by rw [<- e];exact h⟩;rw [mX,aaI hm];congr 1;rw [List.findIdx_eq hi];refine ⟨by rw [<- e];exact h,λj b=>?_⟩;have:=hn j b;have a:j<l.length:=by omega
 rwa [aaS,aaF a]at this
theorem Xt {l:List bF} {n:Int} (hn:∀ j,j<l.length->((l.getD j eU).go==n)=false):mX l n = -1:=by
 rw [mX,Y0];rw [List.any_eq_true];rintro ⟨x,hx,h⟩;obtain ⟨j,a,e⟩:=List.getElem_of_mem hx;have:=hn j a;rw [aaS,aaF a,acr,e]at this;rw [this]at h;cases h
abbrev ug (n:Int):Ob := .cells ⟨3,1,λ_ => .int n,0⟩
theorem TB (g:Bool) (l:List bF) (n:Int):AC Tryz.prog T aJ 174 [.row 122 g l.length (λi=>bn (l.getD i eU)),.clo 175 [.ptr (.b 0) 1 0 []]] [ug n] (.int (mX l n)) [ug n]:=by
 refine aX Tryz.func174 ?_;refine WP.rowlen 0 rfl (λhl=>?_);refine sg rfl (sq (sq (rg [] rfl ?_)));refine bk (WP.loop (α:=Nat) (λi=>aN [(0,.row 122 g l.length (λi=>bn (l.getD i eU))),(1,.clo 175 [.ptr (.b 0) 1 0 []]),(7,.int l.length),(8,.int i)] [(.b 0,ug n)]) (λi=>i<=l.length /\ ∀ j,j<i->((l.getD j eU).go==n)=false) (λi=>l.length - i) ?_ ?_)
 ·refine ⟨0,?_,?_⟩;{exact ⟨abr _,λj h=>by omega⟩};refine eX cX ⟨obs rfl,tt⟩
 rintro i ⟨hi,hn⟩;refine sg rfl (sq ?_);refine cd rfl (λd=>?_) (λd=>?_);{(have c:i<l.length:=by simpa using d);refine sk (sq (bk (sq (rg [] rfl ?_))));refine sq (rgs [CG.pure (.bool ((l.getD i eU).go==n))] rfl ?_ ?_);{have f:=VT (l.getD i eU) n;(have a:0<=(i:Int)/\(i:Int)<(l.length:Int):=by omega);simp only [ay,under,CG.pure];(repeat' with_reducible refine And.intro ?_ ?_);(all_goals (try with_reducible intros));all_goals (first | exact trivial | assumption | omega | exact f | exact a | exact a.1 | exact a.2 | exact rfl | (simp;done) | grind)};refine cd rfl (λe=>?_) (λe=>?_);{refine sg rfl (rX ?_);refine aH hT [] (ts:=[(4,.int (mX l n))]) (l:=[.int (mX l n)]) trivial ⟨⟨rfl,_,rfl,ah (ab5 AV.int (Xv c e hn).symm)⟩,tt⟩ ⟨obs rfl,tt⟩ rfl rfl rfl};refine sk (rg [] rfl ?_);refine ⟨i+1,?_,?_,?_⟩;{exact ⟨c,all_succ (Q:=λj=>((l.getD j eU).go==n)=false) hn e⟩};{refine eX cX ⟨obs rfl,tt⟩};(try simp only []);first | omega | grind};(have c:i=l.length:=by simp at d;omega);subst c;refine xt (sq (rg [] rfl ?_));refine rX ?_;refine aH hT [] (ts:=[(4,.int (mX l n))]) (l:=[.int (mX l n)]) trivial ⟨⟨rfl,_,rfl,ah (ab5 AV.int (Xt hn).symm)⟩,tt⟩ ⟨obs rfl,tt⟩ rfl rfl rfl
def yK (l:List bF):Nat->Int->bF×Int
 | 0,n=>(eU,n)
 | k+1,n=>if 0<=mX l ((n+1) % 6)then (l.getD (mX l ((n+1) % 6)).toNat eU,((n+1) % 6))else yK l k ((n+1) % 6)
theorem Q8 (l:List bF):∀ (k:Nat) (n:Int),0<=n/\n<6->0<=(yK l k n).2/\(yK l k n).2<6
 | 0,n,h=>h
 | k+1,n,h=>by(have a:0<=((n+1) % 6)/\((n+1) % 6)<6:=by omega);rw [yK];split;{exact a};exact Q8 l k _ a
theorem Ul {l:List bF} {n:Int} {x:bF} (hx:x∈l) (h:x.go=n):0<=mX l n:=by
 have hm:l.any (λx=>x.go==n)=true:=List.any_eq_true.2 ⟨x,hx,beq_iff_eq.2 h⟩;rw [mX,aaI hm];omega
theorem Xu {l:List bF} {n:Int} (h:0<=mX l n):(mX l n).toNat<l.length:=by
 unfold mX at h ⊢;split at h
 ·rename_i hm;rw [aaI hm,ab6];obtain ⟨x,hx,hp⟩:=List.any_eq_true.1 hm;exact List.findIdx_lt_length_of_exists ⟨x,hx,hp⟩
 omega
theorem TA (i:Int) (l:List bF) (n:Int) (hn:0<=n/\n<6) (hl:l≠[]) (hg:∀ x∈l,0<=x.go/\x.go<6):AC Tryz.prog T aJ 173 [.int i,dn l,.ptr (.b 0) 1 0 []] [ug n] (.tup [bn (yK l 6 n).1,.bool true]) [ug (yK l 6 n).2]:=by
 refine aX Tryz.func173 ?_;refine WP.rowlen 1 rfl (λp=>?_);refine sg rfl (bk ?_);refine WP.loop (α:=Nat×Int) (λ(⟨k,m⟩:Nat×Int)=>aN [(1,dn l),(2,.ptr (.b 0) 1 0 []),(5,.ptr (.s 5 0) 1 0 [])] [(.b 0,ug m),(.s 5 0,.cells ⟨122,1,λ_=>bn eU,0⟩)]) (λ(⟨k,m⟩:Nat×Int)=>yK l k m=yK l 6 n/\(0<=m/\m<6) /\ ∃ x∈l,∃ j:Nat,j<k/\x.go=(m+1+j) % 6) (λ(⟨k,m⟩:Nat×Int)=>k) ?_ ?_
 ·refine ⟨⟨6,n⟩,?_,?_⟩;{obtain ⟨x,hx⟩:=List.exists_mem_of_ne_nil l hl;have:=hg x hx;refine ⟨rfl,hn,x,hx,((x.go - n - 1) % 6).toNat,by omega,by omega⟩};refine eX cX ⟨obs rfl,obs rfl,tt⟩
 rintro ⟨k,m⟩ ⟨e,hm,x,hx,j,u,r⟩;obtain ⟨k,rfl⟩:∃ t,k=t+1:=⟨k - 1,by omega⟩;have hw:IntKind.i64.wrap (m+1)=m+1:=bK (by omega) (by omega);(have d:0<=((m+1) % 6)/\((m+1) % 6)<6:=by omega);refine bk (sq (rg [] rfl ?_));refine sq (wE [(1,dn l),(2,.ptr (.b 0) 1 0 []),(5,.ptr (.s 5 0) 1 0 [])] [(.b 0,ug ((m+1) % 6)),(.s 5 0,.cells ⟨122,1,λ_=>bn eU,0⟩)] ⟨obs rfl (hg:=q0 (ah ((ab5 (λz:Int=>AV.int (z.tmod 6)) hw).trans (ab5 AV.int (Int.tmod_eq_emod_of_nonneg (by omega)))))),obs rfl,tt⟩ ?_);refine rgs [⟨true,[.b 0],.int (mX l ((m+1) % 6)),[ug ((m+1) % 6)]⟩] rfl ?_ ?_;{have v:=TB false l ((m+1) % 6);have h:kU [.b 0] [ug ((m+1) % 6)]:=⟨λ_ _=>rfl,tt⟩;have o:kU (bs 1) [ug ((m+1) % 6)]:=⟨λ_ _=>rfl,tt⟩;exact au};refine sg rfl (cd rfl (λc=>?_) (λc=>?_));{(have hp:0<=mX l ((m+1) % 6):=by simpa using c);have q:=Xu hp;refine sq (rgs [] rfl ?_ ?_);{(have a:0<=mX l ((m+1) % 6)/\mX l ((m+1) % 6)<(l.length:Int):=by omega);simp only [ay,under,CG.pure];(repeat' with_reducible refine And.intro ?_ ?_);(all_goals (try with_reducible intros));all_goals (first | exact trivial | assumption | omega | exact a | exact a.1 | exact a.2 | (simp;done) | grind)};refine rX ?_;(have f:yK l 6 n=(l.getD (mX l ((m+1) % 6)).toNat eU,((m+1) % 6)):=by rw [<- e,yK,aaI hp]);rw [f];refine aH hT [(.s 5 0,1)] (ts:=[(5,.rp 122 (bn (l.getD (mX l ((m+1) % 6)).toNat eU))),(6,.bool true)]) (l:=[bn (l.getD (mX l ((m+1) % 6)).toNat eU),.bool true]) ⟨sF,tt⟩ ⟨⟨rfl,_,rfl,rpv (hF:=by simp [dL,aQ])⟩,cq,tt⟩ ⟨obs rfl,tt⟩ rfl rfl rfl};(have hp:¬ 0<=mX l ((m+1) % 6):=by simpa using c);refine sk ⟨⟨k,((m+1) % 6)⟩,?_,?_,?_⟩;{rw [yK,Y0 hp]at e;refine ⟨e,d,x,hx,?_⟩;rcases adx j with g | g;{exact absurd (Ul hx (by omega)) hp};exact ⟨j - 1,by omega,by omega⟩};{refine eX cX ⟨obs rfl,obs rfl,tt⟩};(try simp only []);first | omega | grind
theorem Oq {p:aj} {s:bW} {x:bF} {n:Int} (h:mZ s):mZ (jO p s x n).1:=by
 unfold jO;split
 ·exact pU
 split
 ·exact pU
 split
 ·exact pU
 rename_i hp;have hp:xZ p s x:=by simpa using hp
 have a:mM (nS p s x n).1:=Ro (GI h hp.1) _ _;have b:mZ (eF (nS p s x n).1 { aC (nS p s x n).1 with pc:=(nS p s x n).2.1}).s:=a.s.eF (x:={ aC (nS p s x n).1 with pc:=(nS p s x n).2.1}) (gW a.s _);show mZ (qY p _ _ _).s;unfold qY;split
 ·exact a.s
 split
 ·exact rW (rW b _ _) _ _
 exact rW b _ _
theorem vg {p:aj} {n:Int}:mZ (aP p n).1:=by
 unfold aP;split
 ·exact pU
 rename_i b;split
 ·exact pU
 have hp:=jZ (by simpa using b);have hF:wG p (aV p 0):=hp.fn _ (by rw [aV,aaS,aaF (show 0<p.funcs.length by have:=hp.funcs;omega)];exact abZ _);refine ⟨Aw _ _,rfl,rfl,rfl,pU.ch,λg hg=>?_⟩;rcases List.mem_cons.1 hg with a | a
 ·rw [a];exact (J5 hF (Xo hp)).1.1
 exact pU.go g (acv _ a)
theorem MR {p:aj} {s:bW} {x:bF} (h:x∈aK p s):x.go∈iy s/\x.alt∈iJ p s x.go/\nR p s=0:=by
 unfold aK at h;split at h
 ·rename_i e;obtain ⟨g,b,c⟩:=List.mem_flatMap.1 h;obtain ⟨a,d,rfl⟩:=List.mem_map.1 c;exact ⟨b,d,e⟩
 cases h
theorem Ws {p:aj} {s:bW} {x:bF} (h:x∈aK p s):0<=x.go/\x.go<6:=by
 obtain ⟨j,a,b,_⟩:=sW.1 (MR h).1;omega
def oU (p:aj) (n:Int):Nat->bW->Int->List bF×Int
 | 0,s,m=>([],m)
 | k+1,s,m=>if aK p s=[]then ([],m)else
  ((yK (aK p s) 6 m).1::(oU p n k (jO p s (yK (aK p s) 6 m).1 n).1 (yK (aK p s) 6 m).2).1,(oU p n k (jO p s (yK (aK p s) 6 m).1 n).1 (yK (aK p s) 6 m).2).2)
theorem Gh (a:Id->Id) (x:bF):ren a (bn x)=bn x:=bP (λq=>by match q with | 0 | 1 | q+2=>rfl)
theorem OB (p:aj) (b:gq) (n:Int) (hn:0<=n/\n<6) (hb:0<=b.steps/\b.steps<=256):AC Tryz.prog T aJ 67 [ak p,cu b,.clo 173 [.ptr (.b 0) 1 0 []]] [ug n] (dn (oU p b.fuel b.steps.toNat (aP p b.fuel).1 n).1) [ug (oU p b.fuel b.steps.toNat (aP p b.fuel).1 n).2]:=by
 refine aX Tryz.func67 ?_;refine sg rfl (sq ?_);refine wQ [(.s 3 0,1),(.s 4 0,1)] [(2,.clo 173 [.ptr (.b 0) 1 0 []]),(3,.rp 26 (ak p)),(4,.rp 28 (cu b))] [(.b 0,ug n)] ⟨obs rfl,tt⟩ (rgs [CG.pure (.tup [encS (aP p b.fuel).1,.int (aP p b.fuel).2])] rfl ?_ ?_)
 ·have d:=FV p b.fuel;exact au
 refine sg rfl (sq (bk ?_));refine WP.loop (α:=List bF×bW×Int) (λ(⟨acc,s,m⟩:List bF×bW×Int)=>aN [(2,.clo 173 [.ptr (.b 0) 1 0 []]),(3,.rp 26 (ak p)),(4,.rp 28 (cu b)),(7,.ptr (.s 7 0) 1 0 []),(9,.own (.s 58 0) acc.length 0 acc.length none)] [(.b 0,ug m),(.s 7 0,.cells ⟨62,1,λ_=>encS s,0⟩),(.s 58 0,dw 122 bn eU acc)]) (λ(⟨acc,s,m⟩:List bF×bW×Int)=>mZ s/\(0<=m/\m<6)/\acc.length<=b.steps.toNat/\acc++(oU p b.fuel (b.steps.toNat - acc.length) s m).1=(oU p b.fuel b.steps.toNat (aP p b.fuel).1 n).1/\(oU p b.fuel (b.steps.toNat - acc.length) s m).2=(oU p b.fuel b.steps.toNat (aP p b.fuel).1 n).2) (λ(⟨acc,s,m⟩:List bF×bW×Int)=>b.steps.toNat - acc.length) ?_ ?_
 ·refine ⟨⟨[],(aP p b.fuel).1,n⟩,?_,?_⟩;{exact ⟨vg,hn,abr _,rfl,rfl⟩};refine eX ⟨cq,cq,cq,cq,⟨rfl,_,rfl,gB⟩,tt⟩ ⟨obs rfl,obs rfl,⟨λ_ _=>rfl,.inr ⟨rfl,122,_,rfl,by decide⟩⟩,tt⟩
 rintro ⟨acc,s,m⟩ ⟨u,hm,w,a,c⟩;refine sq (sq (rg [] rfl ?_));refine cd rfl (λj=>?_) (λj=>?_);{(have g:acc.length<b.steps.toNat:=by simp [-List.getD_eq_getElem?_getD]at j;omega);(have hk:b.steps.toNat - acc.length=(b.steps.toNat - (acc.length+1))+1:=by omega);refine sk (bk (sq (rgs [CG.pure (.tup [dn (aK p s),.int (nR p s)])] rfl ?_ ?_)));{have d:=zo p s u;exact au};refine sq (sq (rg [] rfl ?_));refine cd rfl (λf=>?_) (λf=>?_);{have i:aK p s=[]:=ac1 (by simp [-List.getD_eq_getElem?_getD]at f;simpa using f);refine xt (sq (rg [] rfl ?_));refine rX ?_;rw [hk,oU,aaI i]at a c;simp only [acB]at a;rw [<- a,<- c];refine aH hT [(.s 58 0,acc.length)] (ts:=[(6,dn acc)]) (l:=[dn acc]) ⟨⟨_,rfl,aa1 _⟩,tt⟩ ⟨⟨rfl,_,rfl,?_⟩,tt⟩ ⟨obs rfl,tt⟩ rfl rfl rfl;exact gZ rfl rfl rfl (λh=>by cases h) (by simp [dL,aQ]) (λq d=>by rw [ab1];exact ⟨rfl,wJ.refl _⟩)};(have i:¬ aK p s=[]:=λe=>by rw [e]at f;cases f);obtain ⟨r,o⟩:∃ r,yK (aK p s) 6 m=r:=⟨_,rfl⟩;(have t:0<=r.2/\r.2<6:=by rw [<- o];exact Q8 _ _ _ hm);refine sk (sq (rgs [⟨true,[.b 0],.tup [bn r.1,.bool true],[ug r.2]⟩] rfl ?_ ?_));{have d:=TA acc.length (aK p s) m hm i (λx hx=>Ws hx);rw [o]at d;have y:kU [.b 0] [ug m]:=⟨λ_ _=>rfl,tt⟩;have a0:kU (bs 1) [ug r.2]:=⟨λ_ _=>rfl,tt⟩;exact au};refine sq (sq (rg [] rfl ?_));refine cd rfl (λv=>?_) (λv=>?_);{cases v};refine sk (sq ?_);refine wF [(.s 12 0,1)] ⟨sF,tt⟩ [(2,.clo 173 [.ptr (.b 0) 1 0 []]),(3,.rp 26 (ak p)),(4,.rp 28 (cu b)),(7,.ptr (.s 7 0) 1 0 []),(9,.own (.s 58 0) acc.length 0 acc.length none),(12,.rp 122 (bn r.1))] [(.b 0,ug r.2),(.s 7 0,.cells ⟨62,1,λ_=>encS s,0⟩),(.s 58 0,dw 122 bn eU acc)] ⟨cq,cq,cq,cq,cq,⟨rfl,_,rfl,bH rfl rfl (by decide) rfl (Gh _ _) rfl⟩,tt⟩ ⟨obs rfl,obs rfl,dJ (nI _) rfl rfl rfl rfl rfl (λq d=>rfl),tt⟩ (rgs [CG.pure (.tup [encS (jO p s r.1 b.fuel).1,gy (jO p s r.1 b.fuel).2.1,.int (jO p s r.1 b.fuel).2.2])] rfl ?_ ?_);{have d:=XW p s r.1 b.fuel u;exact au};refine rgs [] rfl ?_ ?_;{have k:(T 122).bytes=16:=rfl;simp [ay,under,k];omega};refine ⟨⟨acc++[r.1],(jO p s r.1 b.fuel).1,r.2⟩,?_,?_,?_⟩;{rw [hk,oU,Y0 i,o]at a c;refine ⟨Oq u,t,by rw [bZ];omega,?_,?_⟩;{rw [<- a,bZ,acs];rfl};rw [<- c,bZ]};{refine eX ⟨cq,cq,cq,cq,⟨rfl,_,rfl,ah (by rw [bZ])⟩,tt⟩ ⟨obs rfl,obs rfl,dJ (nI _) rfl rfl (by rw [bZ]) rfl rfl (CU (z:=(T 122).zero) rfl rfl (λq d=>rfl)),tt⟩};(show b.steps.toNat - (acc++[r.1]).length<b.steps.toNat - acc.length;rw [bZ];omega)};(have g:acc.length=b.steps.toNat:=by simp [-List.getD_eq_getElem?_getD]at j;omega);refine xt (sq (rg [] rfl ?_));refine rX ?_;rw [g,Nat.sub_self,oU]at a c;simp only [acB]at a;rw [<- a,<- c];refine aH hT [(.s 58 0,acc.length)] (ts:=[(6,dn acc)]) (l:=[dn acc]) ⟨⟨_,rfl,aa1 _⟩,tt⟩ ⟨⟨rfl,_,rfl,?_⟩,tt⟩ ⟨obs rfl,tt⟩ rfl rfl rfl;exact gZ rfl rfl rfl (λh=>by cases h) (by simp [dL,aQ]) (λq d=>by rw [ab1];exact ⟨rfl,wJ.refl _⟩)
def uM (p:aj) (b:gq):List bF:=if fZ p 0 b=0 then (oU p b.fuel b.steps.toNat (aP p b.fuel).1 5).1 else []
theorem VQ (p:aj) (b:gq):AC Tryz.prog T aJ 118 [ak p,cu b] [] (.tup [dn (uM p b),.int (fZ p 0 b)]) []:=by
 refine aX Tryz.func118 ?_;refine sg rfl (sq (sq ?_));refine WP.ent (st':=aN [(2,.rp 26 (ak p)),(3,.rp 28 (cu b))] []) (em [(.s 2 0,1),(.s 3 0,1)] ⟨sF,sF,tt⟩ ⟨rq,rq,tt⟩ trivial) ?_;refine rgs [CG.pure (.int (fZ p 0 b))] rfl ?_ ?_
 ·have d:=QY p 0 b;exact au
 refine sg rfl (cd rfl (λc=>?_) (λc=>?_))
 ·(have a:fZ p 0 b≠0:=by simpa using c);refine sg rfl (rX ?_);refine aH hT [] (ts:=[(4,dn (uM p b)),(5,.int (fZ p 0 b))]) (l:=[dn (uM p b),.int (fZ p 0 b)]) trivial ⟨⟨rfl,_,rfl,?_⟩,cq,tt⟩ trivial rfl rfl rfl;rw [uM,Y0 a];exact dI (by decide)
 (have a:fZ p 0 b=0:=by simpa using c);have hb:=(N8 a).2.2;refine sk (sq (rg [] rfl ?_));refine sq (wE [(2,.rp 26 (ak p)),(3,.rp 28 (cu b)),(7,.ptr (.s 7 0) 1 0 [])] [(.s 7 0,ug 5)] ⟨obs rfl,tt⟩ ?_);refine rgs [⟨true,[.s 7 0],dn (uM p b),[ug (oU p b.fuel b.steps.toNat (aP p b.fuel).1 5).2]⟩] rfl ?_ ?_;{have d:=OB p b 5 (by omega) hb.1;(have e:uM p b=(oU p b.fuel b.steps.toNat (aP p b.fuel).1 5).1:=by rw [uM,aaI a]);rw [<- e]at d;have f:ren (sig [.s 7 0] 0) (ak p)=ak p:=vF _ p;have g:ren (sig [.s 7 0] 0) (cu b)=cu b:=bP (λq=>by match q with | 0 | 1 | 2 | q+3=>rfl);rw [<- f,<- g]at d;have h:kU [.s 7 0] [ug 5]:=⟨λ_ _=>rfl,tt⟩;have i:kU (bs 1) [ug (oU p b.fuel b.steps.toNat (aP p b.fuel).1 5).2]:=⟨λ_ _=>rfl,tt⟩;exact au};exact WP.ret (aH hT [] (ts:=[(4,dn (uM p b)),(5,.int (fZ p 0 b))]) (l:=[dn (uM p b),.int (fZ p 0 b)]) trivial ⟨cq,⟨rfl,_,rfl,ah (by rw [a])⟩,tt⟩ trivial rfl rfl rfl)
theorem Ya (p:aj) (b:gq):AC Tryz.prog T aJ 98 [ak p,cu b] [] (.int (fZ p 0 b)) []:=by
 refine aX Tryz.func98 ?_;refine sg rfl (sq (rgs [CG.pure (.tup [dn (uM p b),.int (fZ p 0 b)])] rfl ?_ ?_))
 ·have a:=VQ p b;exact au
 exact sg rfl (WP.ret (bC hT (by rfl) rfl))
theorem Oy (f:Bool) (l:List bF) (n:Nat) (a:n+1<4294967296):AC Tryz.prog T aJ 100 [.row 122 f (n+1) (λi=>bn (l.getD i eU))] [] (.own (.b 0) (n+1) 0 (n+1) none) [.cells ⟨122,n+1,λi=>bn (l.getD i eU),0⟩]:=by
 refine aX Tryz.func100 ?_;refine sg rfl (sq (sq (rg [] rfl ?_)));refine cd rfl (λa=>?_) (λa=>?_)
 ·cases a
 refine sk (sq (rgs [] rfl ?_ ?_));{have c:(T 122).bytes=16:=rfl;simp [ay,under,c];omega};refine rX ?_;refine zD hT [] [.s 7 0] (ts:=[(2,.own (.b 0) (n+1) 0 (n+1) none)]) (l:=[.own (.b 0) (n+1) 0 (n+1) none]) trivial rfl ⟨⟨_,.own (.s 7 0) (n+1) 0 (n+1) none,rfl,ah (by simp),rfl,rfl⟩,tt⟩ ⟨.inl ⟨_,.cells ⟨122,n+1,λi=>bn (l.getD i eU),0⟩,rfl,⟨λi=>bn (l.getD i eU),0,?_,aa1 _,abr _,abr _,λi hi=>ah ?_⟩,λ_ _=>rfl,?_⟩,tt⟩ rfl rfl;{simp};{exact (yR (abr _) hi).trans rfl};show Ob.cells ⟨122,n+1,λi=>bn (l.getD i eU),0⟩=Ob.cells ⟨122,n+1,λi=>ren _ (bn (l.getD i eU)),0⟩;simp only [Gh]
theorem Oz (f:Bool):AC Tryz.prog T aJ 100 [.row 122 f 0 (λi=>bn (([]:List bF).getD i eU))] [] (.own (.b 0) 0 0 0 none) [dw 122 bn eU []]:=by
 refine aX Tryz.func100 ?_;refine sg rfl (sq (sq ?_));refine WP.nilreg (l:=[_]) (gs:=[]) hT hE rfl rfl trivial rfl rfl rfl rfl rfl rfl (λb=>?_);refine cd rfl (λa=>?_) (λa=>?_)
 ·exact sg rfl (WP.ret (zD hT [] [.s 7 0] (ts:=[(2,.own (.b 0) 0 0 0 none)]) (l:=[.own (.b 0) 0 0 0 none]) trivial rfl ⟨⟨_,.own (.s 7 0) 0 0 0 none,rfl,JQ,rfl,rfl⟩,tt⟩ ⟨.inr ⟨rfl,122,_,rfl,Nat.lt_of_lt_of_eq (by decide) (show 2=(T 122).size from rfl)⟩,tt⟩ rfl rfl))
 refine sk (sq (rgs [CG.mine,CG.nop] rfl ?_ ?_));{simp [ay,under]};exact WP.ret (zD hT [] [.s 5 0] (ts:=[(2,.own (.b 0) 0 0 0 none)]) (l:=[.own (.b 0) 0 0 0 none]) trivial rfl ⟨⟨_,.own (.s 5 0) 0 0 0 none,rfl,ah rfl,rfl,rfl⟩,tt⟩ ⟨.inl ⟨_,dw 122 bn eU [],rfl,⟨_,_,rfl,aa1 _,abr _,abr _,λi hi=>absurd hi (Nat.not_lt_zero _)⟩,λ_ _=>rfl,(jU (Gh _)).symm⟩,tt⟩ rfl rfl)
theorem QC (l:List bF) (c:l.length<4294967296):AC Tryz.prog T aJ 100 [dn l] [] (dn l) []:=by
 have h:AC Tryz.prog T aJ 100 [dn l] [] (.own (.b 0) l.length 0 l.length none) [dw 122 bn eU l]:=by cases l with| nil=>exact Oz false| cons a r=>exact Oy false (a::r) r.length (by simpa using c)
 exact AC.ent h (tV.mk (ms:=[]) (ts:=[(0,dn l)]) hT [(.b 0,l.length)] ⟨⟨_,rfl,aa1 _⟩,tt⟩ ⟨⟨rfl,_,rfl,gZ rfl rfl rfl (λh=>by cases h) (by simp [dL,aQ]) (λj d=>by rw [ab1];exact ⟨rfl,wJ.refl _⟩)⟩,tt⟩ trivial rfl)
theorem UF (l:List bF):AC Tryz.prog T aJ 144 [dn l] [] (.row 122 true l.length (λi=>bn (l.getD i eU))) []:=by
 refine aX Tryz.func144 ?_;refine sg rfl (sg rfl ?_);refine rX ?_;refine aH hT [] (ts:=[(2,.row 122 true l.length (λi=>bn (l.getD i eU)))]) (l:=[.row 122 true l.length (λi=>bn (l.getD i eU))]) trivial ⟨⟨rfl,_,rfl,?_⟩,tt⟩ trivial rfl rfl rfl;refine ah ?_;simp [RI,tX]
structure wC where
 picks:List bF
 cut:Bool
 rep:Bool
 deriving DecidableEq
def aai:wC:=⟨[],false,false⟩
def DZ (x:wC):AV:=bI 45 [dn x.picks,.bool x.cut,.bool x.rep]
theorem TY (ids:List Id) (x:wC):fE ids (DZ x)=true:=rfl
def DV (n m:Nat) (i j:Id):AV:=bI 105 [.own i n 0 n none,.own j m 0 m none]
def oZ (n m:Nat) (i j:Id):Ob := .cells ⟨105,1,λ_=>DV n m i j,0⟩
abbrev jH (l:List wC):Ob:=dw 45 DZ aai l
abbrev jJ (l:List bW):Ob:=dw 62 encS st0 l
def uZ (b:gq) (L:List wC):Bool:=decide ((L.length:Int)<b.runs)
def rH (b:gq) (L:List wC) (x:wC):List wC:=if uZ b L then L++[x]else L
def rJ (b:gq) (L:List wC) (E:List bW) (s:bW):List bW:=if uZ b L then E++[s]else E
theorem Yu (b:gq) (hb:uj b) (L:List wC) (E:List bW) (hE:E.length=L.length) (picks:List bF) (hp:picks.length<=256) (s:bW) (cut:Bool):AC Tryz.prog T aJ 99 [dn picks,encS s,.bool cut,.ptr (.b 0) 1 0 [],.rp 28 (cu b)] [oZ L.length E.length (.b 1) (.b 2),jH L,jJ E] (.bool (uZ b L)) [oZ (rH b L ⟨picks,cut,false⟩).length (rJ b L E s).length (.b 1) (.b 2),jH (rH b L ⟨picks,cut,false⟩),jJ (rJ b L E s)]:=by
 refine aX Tryz.func99 ?_;obtain ⟨_,_,g,h⟩:=hb;refine sg rfl (sq (sq ?_));refine WP.ent (st':=aN [(0,dn picks),(2,.bool cut),(3,.ptr (.b 0) 1 0 []),(4,.rp 28 (cu b)),(6,.rp 62 (encS s)),(8,.bool false)] [(.b 0,oZ L.length E.length (.b 1) (.b 2)),(.b 1,jH L),(.b 2,jJ E)]) ?_ ?_
 ·refine em [(.s 6 0,1)] ⟨sF,tt⟩ ⟨cq,cq,cq,cq,rq,cq,tt⟩ ⟨obs rfl,obs rfl,obs rfl,tt⟩
 refine rg [] rfl (cd rfl (λa=>?_) (λa=>?_))
 ·(have ht:uZ b L=false:=by simp [-List.getD_eq_getElem?_getD,uZ]at a ⊢;omega);refine sg rfl (rX ?_);rw [show rH b L ⟨picks,cut,false⟩=L by rw [rH,ht];rfl,show rJ b L E s=E by rw [rJ,ht];rfl,ht];refine aH hT [] (ts:=[(8,.bool false)]) (l:=[.bool false]) trivial cX ⟨obs rfl,obs rfl,obs rfl,tt⟩ rfl rfl rfl
 (have ht:uZ b L=true:=by simp [-List.getD_eq_getElem?_getD,uZ]at a ⊢;omega);(have hl:(L.length:Int)<b.runs:=by simpa [uZ]using ht);refine sk (sq (drs [CG.pure (dn picks)] rfl ?_ ?_));{have d:=QC picks (by omega);have i:(T 45).bytes=32:=rfl;exact au};refine sq (rgs [] rfl ?_ ?_);{(have c:(T 62).bytes<=1024:=by decide);have hm:(E.length+1)*(T 62).bytes<=(E.length+1)*1024:=adI _ c;exact au};refine sg rfl (rX ?_);(have e:rH b L ⟨picks,cut,false⟩=L++[⟨picks,cut,false⟩]:=by rw [rH,aaI ht]);(have f:rJ b L E s=E++[s]:=by rw [rJ,aaI ht]);rw [e,f,ht];refine aH hT [] (ts:=[(8,.bool true)]) (l:=[.bool true]) trivial cX ⟨obs rfl (hg:=q0 (ah ?_)),dJ (TY _) rfl rfl (by rw [bZ]) rfl rfl (CU (z:=(T 45).zero) rfl (bP λq=>by match q with | 0 | 1 | 2 | q+3=>rfl) (λq d=>rfl)),dJ (Rq _) rfl rfl (by rw [bZ]) rfl rfl (CU (z:=(T 62).zero) rfl rfl (λq d=>rfl)),tt⟩ rfl rfl rfl;rw [bZ,bZ];exact bP λq=>by match q with | 0 | 1 | q+2=>rfl
structure TS where
 runs:List wC
 ends:List bW
 spun:Bool
 short:Bool
 over:Bool
def Ib (p:aj) (b:gq) (t:TS):AV:=bI 206 [ak p,cu b,.clo 99 [.ptr (.b 1) 1 0 [],.rp 28 (cu b)],.bool t.spun,.bool t.short,.bool t.over]
abbrev xO (p:aj) (b:gq) (t:TS):Ob := .cells ⟨206,1,λ_=>Ib p b t,0⟩
abbrev fO (t:TS):Ob:=oZ t.runs.length t.ends.length (.b 2) (.b 3)
theorem EY (a:Id->Id) (b:gq):ren a (cu b)=cu b:=bP (λq=>by match q with | 0 | 1 | 2 | q+3=>rfl)
theorem wW (a:Id->Id) (x:wC):ren a (DZ x)=DZ x:=bP (λq=>by match q with | 0 | 1 | 2 | q+3=>rfl)
theorem ZI {a:Id->Id} (c:a (.b 1) = .b 1) (p:aj) (b:gq) (t:TS):ren a (Ib p b t)=Ib p b t:=bP (λq=>by
 match q with
 | 0=>exact vF a p
 | 1=>exact EY a b
 | 2=>show AV.clo _ [.ptr (a (.b 1)) 1 0 [],.rp _ (cu b)]=_;rw [c];rfl
 | 3 | 4 | 5 | q+6=>rfl)
theorem aan {a:Id->Id} (c:a (.b 1) = .b 1) (p:aj) (b:gq) (t:TS):fK a (xO p b t)=xO p b t:=by
 show Ob.cells ⟨_,_,λ_=>ren a (Ib p b t),_⟩=_;rw [ZI c]
theorem vG {a:Id->Id} {n m:Nat} {i j i' j':Id} (b:a i=i') (c:a j=j'):ren a (DV n m i j)=DV n m i' j':=bP (λq=>by
 match q with
 | 0=>show AV.own (a i) n 0 n none=_;rw [b];rfl
 | 1=>show AV.own (a j) m 0 m none=_;rw [c];rfl
 | q+2=>rfl)
theorem Ag {a:Id->Id} {n m:Nat} {i j i' j':Id} (b:a i=i') (c:a j=j'):fK a (oZ n m i j)=oZ n m i' j':=by
 show Ob.cells ⟨_,_,λ_=>ren a (DV n m i j),_⟩=_;rw [vG b c];rfl
theorem TN (p:aj) (b:gq) (t:TS) (x:Bool):(Ib p b t).put [3] (.bool x)=Ib p b { t with spun:=x}:=dB (abJ rfl)
theorem PO (p:aj) (b:gq) (t:TS) (x:Bool):(Ib p b t).put [4] (.bool x)=Ib p b { t with short:=x}:=dB (abJ rfl)
theorem TP (p:aj) (b:gq) (t:TS) (x:Bool):(Ib p b t).put [5] (.bool x)=Ib p b { t with over:=x}:=dB (abJ rfl)
def Vp (z:Bool) (s:bW):Nat->Bool
 | 0=>z
 | k+1=>Vp z s k||(s.gos.getD k go0).status==5
abbrev qR (t:TS) (s:bW) (k:Nat):TS:={ t with spun:=Vp t.spun s k}
def zQ (b:gq) (s:bW) (picks:List bF) (cut:Bool) (t:TS):TS :=
 if uZ b t.runs=false then { t with over:=true}else { t with runs:=t.runs++[⟨picks,cut,false⟩],ends:=t.ends++[s],short:=t.short||cut}
def rU (p:aj) (b:gq):Nat->bW->List bF->TS->TS
 | 0,s,picks,t=>zQ b s picks (!(aK p s).isEmpty) (qR t s 6)
 | k+1,s,picks,t=>if aK p s=[]then zQ b s picks false (qR t s 6)else
  (aK p s).foldl (λt x=>if t.over=true then t else rU p b k (jO p s x b.fuel).1 (picks++[x]) t) (qR t s 6)
abbrev IX (p:aj) (b:gq) (k:Nat) (s:bW) (picks:List bF) (t:TS) (x:bF):TS:=if t.over=true then t else rU p b k (jO p s x b.fuel).1 (picks++[x]) t
theorem Jt {b:gq} {s:bW} {picks:List bF} {c:Bool} {t:TS} (h:t.ends.length=t.runs.length):(zQ b s picks c t).ends.length=(zQ b s picks c t).runs.length:=by
 unfold zQ;split
 ·exact h
 simp [h]
theorem NW {α β:Type} {f:β->α->β} {P:β->Prop} (h:∀ b a,P b->P (f b a)):∀ (l:List α) (b:β),P b->P (l.foldl f b)
 | [],_,hb=>hb
 | a::r,b,hb=>NW h r _ (h b a hb)
theorem Rn {p:aj} {b:gq}:∀ (k:Nat) (s:bW) (picks:List bF) (t:TS),t.ends.length=t.runs.length->(rU p b k s picks t).ends.length=(rU p b k s picks t).runs.length
 | 0,s,picks,t,h=>Jt h
 | k+1,s,picks,t,h=>by rw [rU];split;{exact Jt h};refine NW (P:=λt:TS=>t.ends.length=t.runs.length) (λt x ht=>?_) _ _ h;show (IX p b k s picks t x).ends.length=(IX p b k s picks t x).runs.length;unfold IX;split;{exact ht};exact Rn k _ _ _ ht
theorem JE {p:aj} {b:gq} {k:Nat} {s:bW} {picks:List bF}:∀ (l:List bF) (t:TS),t.over=true->l.foldl (IX p b k s picks) t=t
 | [],_,_=>rfl
 | x::r,t,h=>by have e:IX p b k s picks t x=t:=aaI h;rw [List.foldl_cons,e];exact JE r t h
theorem Vo (b:gq) (hb:uj b) (t:TS) (hE:t.ends.length=t.runs.length) (picks:List bF) (hp:picks.length<=256) (s:bW) (cut:Bool):AC Tryz.prog T aJ 99 [dn picks,ren (sig [.b 1,.b 2,.b 3] 0) (encS s),.bool cut,.ptr (.b 0) 1 0 [],.rp 28 (cu b)] [fK (sig [.b 1,.b 2,.b 3] 0) (fO t),fK (sig [.b 1,.b 2,.b 3] 0) (jH t.runs),fK (sig [.b 1,.b 2,.b 3] 0) (jJ t.ends)] (.bool (uZ b t.runs)) [oZ (rH b t.runs ⟨picks,cut,false⟩).length (rJ b t.runs t.ends s).length (.b 1) (.b 2),jH (rH b t.runs ⟨picks,cut,false⟩),jJ (rJ b t.runs t.ends s)]:=by
 rw [qo,Ag (i' := .b 1) (j' := .b 2) rfl rfl,jU (wW _),jU (qo _)];exact Yu b hb t.runs t.ends hE picks hp s cut
theorem YT {p:aj} {b:gq} {k:Nat} {s:bW} {picks:List bF} {t:TS} (h:aK p s=[]\/k=0):rU p b k s picks t=zQ b s picks (!(aK p s).isEmpty) (qR t s 6):=by
 cases k with| zero=>rfl| succ k=>have a:aK p s=[]:=h.resolve_right (by omega);rw [rU,aaI a,a];rfl
theorem YU {p:aj} {b:gq} {k:Nat} {s:bW} {picks:List bF} {t:TS} (h:aK p s≠[]):rU p b (k+1) s picks t=(aK p s).foldl (IX p b k s picks) (qR t s 6):=by
 rw [rU,Y0 h]
theorem YL {a:Id->Id} (c:a (.b 2) = .b 2) (d:a (.b 3) = .b 3) (t:TS):fK a (fO t)=fO t:=Ag c d
abbrev YV (p:aj) (b:gq) (k:Nat):Prop := ∀ (s:bW) (picks:List bF) (t:TS),picks.length+k=b.steps.toNat->mZ s->t.ends.length=t.runs.length->AC Tryz.prog T aJ 102 [.ptr (.b 0) 1 0 [],encS s,dn picks] [xO p b t,fO t,jH t.runs,jJ t.ends] (.tup []) [xO p b (rU p b k s picks t),fO (rU p b k s picks t),jH (rU p b k s picks t).runs,jJ (rU p b k s picks t).ends]
theorem WJ {ids:List Id} {n m:Nat} {i j:Id} {L:List wC} {E:List bW} (h:fE ids (DV n m i j)=true):kU ids [oZ n m i j,jH L,jJ E]:=⟨λ_ _=>h,λ_ _=>rfl,λ_ _=>rfl,tt⟩
theorem aay {p:aj} {b:gq} {k:Nat} (e:YV p b k) (s:bW) (picks:List bF) (t:TS) (a:picks.length+k=b.steps.toNat) (c:mZ s) (d:t.ends.length=t.runs.length):AC Tryz.prog T aJ 102 [.ptr (.b 0) 1 0 [],ren (sig [.b 0,.b 1,.b 2,.b 3] 0) (encS s),dn picks] [fK (sig [.b 0,.b 1,.b 2,.b 3] 0) (xO p b t),fK (sig [.b 0,.b 1,.b 2,.b 3] 0) (fO t),fK (sig [.b 0,.b 1,.b 2,.b 3] 0) (jH t.runs),fK (sig [.b 0,.b 1,.b 2,.b 3] 0) (jJ t.ends)] (.tup []) [xO p b (rU p b k s picks t),fO (rU p b k s picks t),jH (rU p b k s picks t).runs,jJ (rU p b k s picks t).ends]:=by
 rw [qo,aan rfl,YL rfl rfl,jU (wW _),jU (qo _)];exact e s picks t a c d
theorem Yh (l:List bF) (x:bF) (j:Nat) (c:j<l.length+1) {g:Nat->AV} (hg:g 0=bn x):pX l.length 1 (λi=>bn (l.getD i eU)) g j=bn ((l++[x]).getD j eU):=by
 show (bif Nat.beq j l.length then g 0 else bn (l.getD j eU))=_;cases a:Nat.beq j l.length with| true=>have:=abe a;subst this;simp [aaS,hg]| false=>(have b:j≠l.length:=λe=>by subst e;simp at a);simp only [aci];simp only [aaS,abY (show j<l.length by omega)]
theorem P5 {ids:List Id} {p:aj} {b:gq} {t:TS} {n m:Nat} {i j:Id} {L:List wC} {E:List bW} (h:fE ids (DV n m i j)=true) (a:fE ids (Ib p b t)=true):kU ids [xO p b t,oZ n m i j,jH L,jJ E]:=⟨λ_ _=>a,λ_ _=>h,λ_ _=>rfl,λ_ _=>rfl,tt⟩
theorem aax {p:aj} {b:gq} {k:Nat} (q:YV p b k) (s:bW) (picks:List bF) (x:bF) (t:TS) (l:picks.length+1+k=b.steps.toNat) (m:mZ s) (o:t.ends.length=t.runs.length) {n:Nat} {f:Bool} {g:Nat->AV} (hn:n=picks.length+1) (hg:∀ j,j<picks.length+1->g j=bn ((picks++[x]).getD j eU)):AC Tryz.prog T aJ 102 [.ptr (.b 0) 1 0 [],ren (sig [.b 0,.b 1,.b 2,.b 3] 0) (encS s),.row 122 f n g] [fK (sig [.b 0,.b 1,.b 2,.b 3] 0) (xO p b t),fK (sig [.b 0,.b 1,.b 2,.b 3] 0) (fO t),fK (sig [.b 0,.b 1,.b 2,.b 3] 0) (jH t.runs),fK (sig [.b 0,.b 1,.b 2,.b 3] 0) (jJ t.ends)] (.tup []) [xO p b (rU p b k s (picks++[x]) t),fO (rU p b k s (picks++[x]) t),jH (rU p b k s (picks++[x]) t).runs,jJ (rU p b k s (picks++[x]) t).ends]:=by
 subst hn;refine AC.args hT (aay q s (picks++[x]) t (by rw [bZ];exact l) m o) rfl (λi a c d hc=>?_);match i,d,hc with| 0,d,hc=>cases d;cases hc;exact ah rfl| 1,d,hc=>cases d;cases hc;exact ah rfl| 2,d,hc=>cases d;cases hc;(have e:dn (picks++[x]) = .row 122 false (picks.length+1) (λi=>bn ((picks++[x]).getD i eU)):=by rw [<- bZ picks x];rfl);rw [e];exact JO (λh=>by cases h) hg
theorem Rl (p:aj) (b:gq) (hb:uj b) (k:Nat) (u:∀ k',k=k'+1->YV p b k') (s:bW) (picks:List bF) (t:TS) (hk:picks.length+k=b.steps.toNat) (hs:mZ s) (ht:t.ends.length=t.runs.length):AC Tryz.prog T aJ 102 [.ptr (.b 0) 1 0 [],encS s,dn picks] [xO p b t,fO t,jH t.runs,jJ t.ends] (.tup []) [xO p b (rU p b k s picks t),fO (rU p b k s picks t),jH (rU p b k s picks t).runs,jJ (rU p b k s picks t).ends]:=by
 refine aX Tryz.func102 ?_;have b3:=hb.1;refine sg rfl (sq (sq ?_));refine wQ [(.s 4 0,1)] [(0,.ptr (.b 0) 1 0 []),(2,dn picks),(4,.rp 62 (encS s))] [(.b 0,xO p b t),(.b 1,fO t),(.b 2,jH t.runs),(.b 3,jJ t.ends)] ⟨obs rfl,obs rfl,obs rfl,obs rfl,tt⟩ (rg [] rfl ?_);refine bk (WP.loop (α:=Nat) (λi=>aN [(0,.ptr (.b 0) 1 0 []),(2,dn picks),(4,.rp 62 (encS s)),(17,yx 60 6 cZ go0 s.gos),(18,.int i)] [(.b 0,xO p b (qR t s i)),(.b 1,fO t),(.b 2,jH t.runs),(.b 3,jJ t.ends)]) (λi=>i<=6) (λi=>6 - i) ?_ ?_)
 ·refine ⟨0,?_,?_⟩;{omega};refine eX cX ⟨obs rfl,obs rfl,obs rfl,obs rfl,tt⟩
 rintro i hi;refine sg rfl (sq ?_);refine cd rfl (λh2=>?_) (λh2=>?_);{(have c:i<6:=by simp [-List.getD_eq_getElem?_getD]at h2;omega);refine sk (sq (bk (sq (rgs [] rfl ?_ ?_))));{simp [-List.getD_eq_getElem?_getD,ay,under];omega};refine rg [] rfl (rg [] rfl ?_);refine ⟨i+1,?_,?_,?_⟩;{omega};{refine eX cX ⟨obs rfl (hg:=q0 (ah ((TN p b (qR t s i) _).trans (by rfl)))),obs rfl,obs rfl,obs rfl,tt⟩};(try simp only []);first | omega | grind};(have c:i=6:=by simp [-List.getD_eq_getElem?_getD]at h2;omega);subst c;refine xt (sq (drs [CG.pure (.tup [dn (aK p s),.int (nR p s)])] rfl ?_ ?_));{clear u;have f:=zo p s hs;exact au};refine sq (sq (rg [] rfl ?_));refine cd rfl (λm=>?_) (λm=>?_);{(have w:aK p s=[]\/k=0:=by rcases adx (aK p s).length with h8 | h8;{exact .inl (ac1 h8)};refine .inr ?_;rw [show (((aK p s).length:Int)==0)=false from beq_eq_false_iff_ne.2 (by omega)]at m;(have o:(picks.length:Int)=b.steps:=by simpa using m);omega);rw [YT w];refine sg rfl (sq (sq ?_));refine wT [(0,.ptr (.b 0) 1 0 []),(2,dn picks),(4,.rp 62 (encS s)),(10,.bool (!(aK p s).isEmpty))] [(.b 0,xO p b (qR t s 6)),(.b 1,fO t),(.b 2,jH t.runs),(.b 3,jJ t.ends)] ⟨cq,cq,cq,⟨rfl,_,rfl,ah (by cases (aK p s) <;> simp)⟩,tt⟩ ⟨obs rfl,obs rfl,obs rfl,obs rfl,tt⟩ (drs [⟨true,[.b 1,.b 2,.b 3],.bool (uZ b t.runs),[oZ (rH b t.runs ⟨picks,!(aK p s).isEmpty,false⟩).length (rJ b t.runs t.ends s).length (.b 1) (.b 2),jH (rH b t.runs ⟨picks,!(aK p s).isEmpty,false⟩),jJ (rJ b t.runs t.ends s)]⟩] rfl ?_ ?_);{clear u;have f:=Vo b hb t ht picks (by omega) s (!(aK p s).isEmpty);have a4:kU [.b 1,.b 2,.b 3] [fO t,jH t.runs,jJ t.ends]:=WJ rfl;have a5:kU (bs 3) [oZ (rH b t.runs ⟨picks,!(aK p s).isEmpty,false⟩).length (rJ b t.runs t.ends s).length (.b 1) (.b 2),jH (rH b t.runs ⟨picks,!(aK p s).isEmpty,false⟩),jJ (rJ b t.runs t.ends s)]:=WJ rfl;exact au};refine cd rfl (λo=>?_) (λo=>?_);{(have d:uZ b t.runs=false:=by simpa using o);(have y:∀ x,rH b t.runs x=t.runs:=λx=>by rw [rH,d];rfl);(have e2:rJ b t.runs t.ends s=t.ends:=by rw [rJ,d];rfl);refine sg rfl (rX ?_);rw [show zQ b s picks (!(aK p s).isEmpty) (qR t s 6)={ qR t s 6 with over:=true} by rw [zQ,aaI d]];simp only [y,e2];exact aH hT [] (ts:=[]) (l:=[]) trivial trivial ⟨obs rfl (hg:=q0 (ah (TP p b (qR t s 6) true))),obs rfl (hg:=q0 (ah (vG rfl rfl))),obs rfl (hg:=λq f=>ah (wW _ _)),obs rfl (hg:=λq f=>ah (qo _ _)),tt⟩ rfl rfl rfl};(have d:uZ b t.runs=true:=by simpa using o);(have y:∀ x,rH b t.runs x=t.runs++[x]:=λx=>by rw [rH,aaI d]);(have e2:rJ b t.runs t.ends s=t.ends++[s]:=by rw [rJ,aaI d]);refine sk (sq (rg [] rfl ?_));refine rX ?_;rw [show zQ b s picks (!(aK p s).isEmpty) (qR t s 6)={ qR t s 6 with runs:=t.runs++[⟨picks,!(aK p s).isEmpty,false⟩],ends:=t.ends++[s],short:=t.short || !(aK p s).isEmpty} by rw [zQ,Y0 (by rw [show (qR t s 6).runs=t.runs from rfl,d];decide)]];simp only [y,e2];exact aH hT [] (ts:=[]) (l:=[]) trivial trivial ⟨obs rfl (hg:=q0 (ah ((PO p b (qR t s 6) _).trans (by rfl)))),obs rfl (hg:=q0 (ah (vG rfl rfl))),obs rfl (hg:=λq f=>ah (wW _ _)),obs rfl (hg:=λq f=>ah (qo _ _)),tt⟩ rfl rfl rfl};(have w:aK p s≠[]:=λe=>by rw [e]at m;cases m);(obtain ⟨n,hn⟩:∃ n,k=n+1:=by refine ⟨k - 1,?_⟩;rw [show (((aK p s).length:Int)==0)=false from beq_eq_false_iff_ne.2 (by have:=List.length_pos_iff.2 w;omega)]at m;(have o:(picks.length:Int)≠b.steps:=by simpa using m);omega);subst hn;rw [YU w];refine sk (sq (rg [] rfl ?_));refine bk (WP.loop (α:=Nat×TS) (λ(⟨i,z⟩:Nat×TS)=>aN [(0,.ptr (.b 0) 1 0 []),(2,dn picks),(4,.rp 62 (encS s)),(81,dn (aK p s)),(82,.int (aK p s).length),(83,.int i)] [(.b 0,xO p b z),(.b 1,fO z),(.b 2,jH z.runs),(.b 3,jJ z.ends)]) (λ(⟨i,z⟩:Nat×TS)=>i<=(aK p s).length/\z.ends.length=z.runs.length/\((aK p s).drop i).foldl (IX p b n s picks) z=(aK p s).foldl (IX p b n s picks) (qR t s 6)) (λ(⟨i,z⟩:Nat×TS)=>(aK p s).length - i) ?_ ?_);{refine ⟨⟨0,qR t s 6⟩,?_,?_⟩;{exact ⟨abr _,ht,rfl⟩};refine eX cX ⟨obs rfl,obs rfl,obs rfl,obs rfl,tt⟩};rintro ⟨i,z⟩ ⟨b4,r,a⟩;refine WP.rowlen 81 rfl (λhl=>?_);refine sg rfl (sq ?_);refine cd rfl (λg=>?_) (λg=>?_);{(have c:i<(aK p s).length:=by simp [-List.getD_eq_getElem?_getD]at g;omega);(have hdr:(aK p s).drop i=(aK p s).getD i eU::(aK p s).drop (i+1):=by rw [List.drop_eq_getElem_cons c];simp [c]);rw [hdr,List.foldl_cons]at a;obtain ⟨x,hx⟩:∃ x,(aK p s).getD i eU=x:=⟨_,rfl⟩;rw [hx]at a;refine sk (sq (bk (sq (rg [] rfl ?_))));refine sq (sq ?_);refine wF [(.s 12 0,1)] ⟨sF,tt⟩ [(0,.ptr (.b 0) 1 0 []),(2,dn picks),(4,.rp 62 (encS s)),(12,.rp 122 (bn x)),(81,dn (aK p s)),(82,.int (aK p s).length),(83,.int i)] [(.b 0,xO p b z),(.b 1,fO z),(.b 2,jH z.runs),(.b 3,jJ z.ends)] ⟨cq,cq,cq,⟨rfl,_,rfl,bH rfl rfl (by decide) rfl (by rw [<- hx];rfl) rfl⟩,cq,cq,cq,tt⟩ ⟨obs rfl,obs rfl,obs rfl,obs rfl,tt⟩ (rg [] rfl ?_);refine cd rfl (λh=>?_) (λh=>?_);{refine rX ?_;have v:z.over=true:=h;have e3:IX p b n s picks z x=z:=aaI v;rw [e3,JE _ _ v]at a;rw [<- a];exact aH hT [] (ts:=[]) (l:=[]) trivial trivial ⟨obs rfl,obs rfl,obs rfl,obs rfl,tt⟩ rfl rfl rfl};have v:¬ z.over=true:=λe=>absurd (e.symm.trans h) (by decide);have e3:IX p b n s picks z x=rU p b n (jO p s x b.fuel).1 (picks++[x]) z:=Y0 v;refine sk (sq (drs [CG.pure (.tup [encS (jO p s x b.fuel).1,gy (jO p s x b.fuel).2.1,.int (jO p s x b.fuel).2.2])] rfl ?_ ?_));{clear u;have f:=XW p s x b.fuel hs;exact au};refine drs [CG.pure (.row 122 true picks.length (λi=>bn (picks.getD i eU))),⟨true,[.b 0,.b 1,.b 2,.b 3],.tup [],[xO p b (rU p b n (jO p s x b.fuel).1 (picks++[x]) z),fO (rU p b n (jO p s x b.fuel).1 (picks++[x]) z),jH (rU p b n (jO p s x b.fuel).1 (picks++[x]) z).runs,jJ (rU p b n (jO p s x b.fuel).1 (picks++[x]) z).ends]⟩] rfl ?_ ?_;{have a8:=UF picks;have a3:(T 122).bytes=16:=rfl;have a4:kU [.b 0,.b 1,.b 2,.b 3] [xO p b z,fO z,jH z.runs,jJ z.ends]:=P5 rfl rfl;have a5:kU (bs 4) [xO p b (rU p b n (jO p s x b.fuel).1 (picks++[x]) z),fO (rU p b n (jO p s x b.fuel).1 (picks++[x]) z),jH (rU p b n (jO p s x b.fuel).1 (picks++[x]) z).runs,jJ (rU p b n (jO p s x b.fuel).1 (picks++[x]) z).ends]:=P5 rfl rfl;have b0:=u n rfl;clear u;(have a7:picks.length+1+n=b.steps.toNat:=by omega);(have b6:picks.length<256:=by omega);have a6:=Oq (p:=p) (x:=x) (n:=b.fuel) hs;simp only [ay,under,CG.pure];(repeat' with_reducible refine And.intro ?_ ?_);(all_goals (try with_reducible intros));all_goals (first | exact trivial | assumption | omega | exact a8 | (refine (ab5 fC (Yh picks x _ ?_ ?_)).trans rfl <;> first | rfl | omega) | (exact aax b0 _ picks x z a7 a6 r (by rfl) (λj hj=>Yh picks x j hj (by rfl))) | (rw [a3];omega) | (simp;done) | trace_state)};refine rg [] rfl ⟨⟨i+1,rU p b n (jO p s x b.fuel).1 (picks++[x]) z⟩,?_,?_,?_⟩;{exact ⟨c,Rn _ _ _ _ r,by rw [<- a,e3]⟩};{refine eX cX ⟨obs rfl (hg:=q0 (ah (ZI rfl p b _))),obs rfl (hg:=q0 (ah (vG rfl rfl))),obs rfl (hg:=λq f=>ah (wW _ _)),obs rfl (hg:=λq f=>ah (qo _ _)),tt⟩};(try simp only []);first | omega | grind};(have c:i=(aK p s).length:=by simp [-List.getD_eq_getElem?_getD]at g;omega);refine xt ?_;rw [c,List.drop_length]at a;have a:z=_:=a;rw [<- a];exact aH hT [] (ts:=[]) (l:=[]) trivial trivial ⟨obs rfl,obs rfl,obs rfl,obs rfl,tt⟩ rfl rfl rfl
section
variable {P:Program} {T:Nat->TI} {N:Nat}
theorem JH (hT:iZ P T N) {nt k j t i i':Nat} {st:St} {y:AV} {a e b b':Value} {B:zh} (F:List (Id×Nat)) (hF:Ia st F) (h:st.t k=some (.always,.ptr (.s j 0) 1 0 [])) (h2:st.t i=some (.always,.v a)) (h3:st.t i'=some (.always,.v e)) (hm:st.m (.s j 0)=some (.cells B)) (hy:Conv st.m (λid=>dL id F) T (B.get 0) y) (he:a=b) (u:e=b')
 (hz:dL (.s j 0) F=0:=by rfl) (w:fC y=true:=by rfl) (z:fE [.s j 0] y=true:=by rfl) (x:oW y=true:=by rfl) (o:Nat.beq i k=false:=by rfl) (d:Nat.beq i' k=false:=by rfl) (c:Nat.beq i' i=false:=by rfl) (r:B.ty=t:=by rfl) (hn:B.n=1:=by rfl) (f:B.fz=0:=by rfl):Fin T N nt 0 [.cell k t,.tmp i,.tmp i'] (.tup [y,.v b,.v b']) [] st:=by
 obtain ⟨ty,n,get,fz⟩:=B;simp only at r hn f hy;subst r hn f he u;refine Fin.ent (tV.mk (P:=P) hT F (ts:=[(k,.ptr (.s j 0) 1 0 []),(i,.v a),(i',.v e)]) (ms:=[(.s j 0,.cells ⟨ty,1,λ_=>y,0⟩)]) hF ⟨⟨by simp [fE,gY,aQ],_,h,ah rfl⟩,⟨rfl,_,h2,ah rfl⟩,⟨rfl,_,h3,ah rfl⟩,tt⟩ ⟨⟨λ_ _=>z,.inl ⟨_,hm,_,_,rfl,aa1 _,by rw [hz];exact abr _,abr _,q0 hy⟩⟩,tt⟩ rfl) ?_;have h1:(aN [(k,AV.ptr (.s j 0) 1 0 []),(i,.v a),(i',.v e)] [(.s j 0,Ob.cells ⟨ty,1,λ_=>y,0⟩)]).m (.s j 0)=some (.cells ⟨ty,1,λ_=>y,0⟩):=by simp [aN,mV,aQ]
 have q:Nat.beq k k=true:=by simp
 have g:Nat.beq i i=true:=by simp
 have p:Nat.beq i' i'=true:=by simp
 refine aH hT [(.s j 0,1)] (ts:=[(k,.rp ty y),(i,.v a),(i',.v e)]) (l:=[y,.v a,.v e]) ⟨⟨_,h1,aa1 _⟩,tt⟩ ⟨⟨rfl,.ptr (.s j 0) 1 0 [],by simp only [aN,lT,q];rfl,?_⟩,⟨rfl,_,by simp only [aN,lT,o,g];rfl,ah rfl⟩,⟨rfl,_,by simp only [aN,lT,d,c,p];rfl,ah rfl⟩,tt⟩ trivial rfl ?_ rfl
 ·exact bH h1 rfl (by simp [dL,aQ]) rfl (by show y.at []=y;cases y <;> rfl) w
 ·have ht:Nat.beq ty ty=true:=by simp
  simp only [yM,aN,lT,q,g,o,d,c,p,aco,aci,acP];simp [Ue,ht,zI,aW,nJ,fF,x,show oW (AV.v a)=true from rfl,show oW (AV.v e)=true from rfl]
end
theorem ZJ {p:aj} {b:gq} (hb:uj b):∀ k,YV p b k
 | 0=>λs picks t a c d=>Rl p b hb 0 (λ_ e=>by cases e) s picks t a c d
 | k+1=>λs picks t a c d=>Rl p b hb (k+1) (λj e=>by cases e;exact ZJ hb k) s picks t a c d
def Iy:TS:=⟨[],[],false,false,false⟩
def xQ (p:aj) (b:gq):TS:=if fZ p 0 b=0 then rU p b b.steps.toNat (aP p b.fuel).1 [] Iy else Iy
def Di (p:aj) (b:gq):Bool:=decide (fZ p 0 b=0) && !(xQ p b).over && !(xQ p b).short && !(xQ p b).spun
abbrev VO (l:List wC):AV:=rowP 45 DZ aai l
abbrev abf (l:List bW):AV:=rowP 62 encS st0 l
def Oj (L:List wC) (E:List bW):AV:=bI 105 [VO L,abf E]
def Ez (i:Id) (p:aj) (b:gq) (t:TS):AV:=bI 206 [ak p,cu b,.clo 99 [.ptr i 1 0 [],.rp 28 (cu b)],.bool t.spun,.bool t.short,.bool t.over]
theorem Wj {a:Id->Id} {i j:Id} (c:a i=j) (p:aj) (b:gq) (t:TS):ren a (Ez i p b t)=Ez j p b t:=bP (λq=>by
 match q with
 | 0=>exact vF a p
 | 1=>exact EY a b
 | 2=>show AV.clo _ [.ptr (a i) 1 0 [],.rp _ (cu b)]=_;rw [c];rfl
 | 3 | 4 | 5 | q+6=>rfl)
theorem aaz {p:aj} {b:gq} (hb:uj b) (ids:List Id) (s:bW) (g:mZ s) {x f i j:Id} (hf:sig [x,f,i,j] 0 f = .b 1) (hi:sig [x,f,i,j] 0 i = .b 2) (h:sig [x,f,i,j] 0 j = .b 3):AC Tryz.prog T aJ 102 [.ptr (.b 0) 1 0 [],ren (sig [x,f,i,j] 0) (encS s),.v (.slice none 0 0)] [fK (sig [x,f,i,j] 0) (.cells ⟨206,1,λ_=>Ez f p b Iy,0⟩),fK (sig [x,f,i,j] 0) (oZ 0 0 i j),fK (sig [x,f,i,j] 0) (jH []),fK (sig [x,f,i,j] 0) (jJ [])] (.tup []) [xO p b (rU p b b.steps.toNat s [] Iy),fO (rU p b b.steps.toNat s [] Iy),jH (rU p b b.steps.toNat s [] Iy).runs,jJ (rU p b b.steps.toNat s [] Iy).ends]:=by
 have e:fK (sig [x,f,i,j] 0) (.cells ⟨206,1,λ_=>Ez f p b Iy,0⟩)=xO p b Iy:=by show Ob.cells ⟨_,_,λ_=>ren _ (Ez f p b Iy),_⟩=_;rw [Wj hf];rfl
 rw [qo,e,Ag hi h,jU (wW _),jU (qo _)];refine AC.args hT (ZJ hb b.steps.toNat s [] Iy (by simp) g rfl) rfl (λi a c d hc=>?_);match i,d,hc with| 0,d,hc=>cases d;cases hc;exact ah rfl| 1,d,hc=>cases d;cases hc;exact ah rfl| 2,d,hc=>cases d;cases hc;exact dI (by decide)
theorem MF (p:aj) (b:gq):AC Tryz.prog T aJ 53 [ak p,cu b] [] (.tup [Oj (xQ p b).runs (xQ p b).ends,.bool (Di p b),.int (fZ p 0 b)]) []:=by
 refine aX Tryz.func53 ?_;refine sg rfl (sq (sq ?_));refine WP.ent (st':=aN [(2,.rp 26 (ak p)),(3,.rp 28 (cu b)),(5,.bool false),(4,.ptr (.s 4 0) 1 0 [])] [(.s 4 0,.cells ⟨105,1,λ_=>(T 105).zero,0⟩)]) (em [(.s 2 0,1),(.s 3 0,1)] ⟨sF,sF,tt⟩ ⟨rq,rq,cq,cq,tt⟩ ⟨obs rfl,tt⟩) ?_;refine rgs [CG.pure (.int (fZ p 0 b))] rfl ?_ ?_
 ·have a:=Ya p b;exact au
 refine sg rfl (cd rfl (λc=>?_) (λc=>?_))
 ·(have hf:fZ p 0 b≠0:=by simpa using c);refine sg rfl (rX ?_);rw [Di,xQ,Y0 hf,ab3 hf];exact JH hT [] trivial rfl rfl rfl rfl ⟨_,rfl,λi hi=>by match i with | 0=>exact dI (by decide) | 1=>exact dI (by decide) | i+2=>exact absurd hi (by simp)⟩ rfl rfl
 (have hf:fZ p 0 b=0:=by simpa using c);have hb:=(N8 hf).2.2;refine sk (sq (rg [] rfl ?_));refine sg rfl (sq (rgs [CG.pure (.tup [encS (aP p b.fuel).1,.int (aP p b.fuel).2])] rfl ?_ ?_));{have a:=FV p b.fuel;exact au};refine sq (WP.ent (st':=aN [(2,.rp 26 (ak p)),(3,.rp 28 (cu b)),(4,.ptr (.s 4 0) 1 0 []),(8,.ptr (.s 8 0) 1 0 []),(9,.ptr (.s 23 0) 1 0 []),(10,.rp 62 (encS (aP p b.fuel).1))] [(.s 4 0,.cells ⟨105,1,λ_=>(T 105).zero,0⟩),(.s 8 0,oZ 0 0 (.s 900 0) (.s 901 0)),(.s 23 0,.cells ⟨206,1,λ_=>Ez (.s 8 0) p b Iy,0⟩),(.s 900 0,jH []),(.s 901 0,jJ [])]) ?_ ?_);{refine em [(.s 10 0,1)] ⟨sF,tt⟩ ⟨cq,cq,cq,cq,cq,rq,tt⟩ ⟨obs rfl,obs rfl (hg:=q0 ⟨_,rfl,λi hi=>by match i with | 0=>exact gB | 1=>exact gB | i+2=>exact absurd hi (by simp)⟩),obs rfl (hg:=q0 (ah (bP λq=>by match q with | 0 | 1 | 2 | 3 | 4 | 5 | q+6=>rfl))),⟨λ_ _=>rfl,.inr ⟨rfl,45,_,rfl,by decide⟩⟩,⟨λ_ _=>rfl,.inr ⟨rfl,62,_,rfl,by decide⟩⟩,tt⟩};refine rgs [⟨true,[.s 23 0,.s 8 0,.s 900 0,.s 901 0],.tup [],[xO p b (rU p b b.steps.toNat (aP p b.fuel).1 [] Iy),fO (rU p b b.steps.toNat (aP p b.fuel).1 [] Iy),jH (rU p b b.steps.toNat (aP p b.fuel).1 [] Iy).runs,jJ (rU p b b.steps.toNat (aP p b.fuel).1 [] Iy).ends]⟩] rfl ?_ ?_;{have a:=aaz (p:=p) hb [] (aP p b.fuel).1 vg (x := .s 23 0) (f := .s 8 0) (i := .s 900 0) (j := .s 901 0) rfl rfl rfl;have g:kU [.s 23 0,.s 8 0,.s 900 0,.s 901 0] [.cells ⟨206,1,λ_=>Ez (.s 8 0) p b Iy,0⟩,oZ 0 0 (.s 900 0) (.s 901 0),jH [],jJ []]:=⟨λ_ _=>rfl,λ_ _=>rfl,λ_ _=>rfl,λ_ _=>rfl,tt⟩;have k:kU (bs 4) [xO p b (rU p b b.steps.toNat (aP p b.fuel).1 [] Iy),fO (rU p b b.steps.toNat (aP p b.fuel).1 [] Iy),jH (rU p b b.steps.toNat (aP p b.fuel).1 [] Iy).runs,jJ (rU p b b.steps.toNat (aP p b.fuel).1 [] Iy).ends]:=P5 rfl rfl;exact au};refine sq ?_;obtain ⟨z,e⟩:∃ z,rU p b b.steps.toNat (aP p b.fuel).1 [] Iy=z:=⟨_,rfl⟩;(have d:xQ p b=z:=by rw [xQ,aaI hf,e]);rw [e];refine WP.ent (st':=aN [(4,.ptr (.s 4 0) 1 0 []),(8,.ptr (.s 8 0) 1 0 []),(9,.ptr (.s 23 0) 1 0 [])] [(.s 4 0,.cells ⟨105,1,λ_=>(T 105).zero,0⟩),(.s 8 0,oZ z.runs.length z.ends.length (.s 900 0) (.s 901 0)),(.s 23 0,.cells ⟨206,1,λ_=>Ez (.s 8 0) p b z,0⟩),(.s 900 0,jH z.runs),(.s 901 0,jJ z.ends)]) ?_ ?_;{refine eX cX ⟨obs rfl,obs rfl (hg:=q0 (ah (vG rfl rfl))),obs rfl (hg:=q0 (ah (Wj (i := .b 1) rfl p b z))),obs rfl (hg:=λq a=>ah (wW _ _)),obs rfl (hg:=λq a=>ah (qo _ _)),tt⟩};refine dr [] rfl (rX ?_);rw [Di,d,hf];refine JH hT [(.s 900 0,z.runs.length),(.s 901 0,z.ends.length)] ⟨⟨_,rfl,aa1 _⟩,⟨_,rfl,aa1 _⟩,tt⟩ rfl rfl rfl rfl ⟨_,rfl,λi hi=>by match i with | 0=>exact gZ rfl rfl rfl (λh=>by cases h) (by simp [dL,aQ]) (λq a=>by rw [ab1];exact ⟨rfl,wJ.refl _⟩) | 1=>exact gZ rfl rfl rfl (λh=>by cases h) (by rw [ab1];exact aa1 _) (λq a=>by rw [ab1];exact ⟨rfl,wJ.refl _⟩) | i+2=>exact absurd hi (by simp)⟩ ?_ rfl;cases z.over <;> cases z.short <;> cases z.spun <;> rfl
theorem aaY (p:aj) (b:gq):AC Tryz.prog T aJ 16 [ak p,cu b] [] (.tup [bI 32 [VO (xQ p b).runs,.bool (Di p b)],.int (fZ p 0 b)]) []:=by
 refine aX Tryz.func16 ?_;refine sg rfl (sq ?_);refine WP.ent (st':=aN [(2,.rp 26 (ak p)),(3,.rp 28 (cu b)),(4,.ptr (.s 4 0) 1 0 [])] [(.s 4 0,.cells ⟨32,1,λ_=>(T 32).zero,0⟩)]) (em [(.s 2 0,1),(.s 3 0,1)] ⟨sF,sF,tt⟩ ⟨rq,rq,cq,tt⟩ ⟨obs rfl,tt⟩) ?_;refine rgs [CG.pure (.tup [Oj (xQ p b).runs (xQ p b).ends,.bool (Di p b),.int (fZ p 0 b)])] rfl ?_ ?_
 ·have a:=MF p b;exact au
 exact sg rfl (WP.ret (qc hT rfl rfl rfl (ah (bP λq=>by match q with | 0 | 1 | q+2=>rfl)) rfl))
theorem XO (a b:bF):(a==b)=(a.go==b.go&&(a.alt==b.alt&&true)):=by
 obtain ⟨x,y⟩:=a;obtain ⟨z,w⟩:=b;rw [abT];simp
structure SI where
 all:List wC
 whole:Bool
 deriving DecidableEq
def uI (x:SI):AV:=bI 32 [rowP 45 DZ aai x.all,.bool x.whole]
structure Rd (b:gq) (t:TS) (L:List (wC×bW)) (sp:Bool) (r:TS):Prop where
 runs:r.runs=(t.runs++L.map (·.1)).take b.runs.toNat
 ends:r.ends=(t.ends++L.map (·.2)).take b.runs.toNat
 over:r.over=decide (b.runs.toNat<t.runs.length+L.length)
 spun:r.over=false->r.spun=(t.spun||sp)
 short:r.over=false->r.short=(t.short||L.any λx=>x.1.cut)
structure abB (b:gq) (t:TS):Prop where
 len:t.runs.length<=b.runs.toNat
 even:t.ends.length=t.runs.length
theorem Rd.ok {b:gq} {t:TS} {L:List (wC×bW)} {sp:Bool} {r:TS} (ht:abB b t) (h:Rd b t L sp r):abB b r :=
 ⟨by rw [h.runs,ab7];omega,by rw [h.runs,h.ends,ab7,ab7];simp [ht.even]⟩
def qA (p:aj) (n:Int):bW->List bF->bW×Nat×List zV
 | s,[]=>(s,0,[])
 | s,x::r=>if (jO p s x n).2.2≠0 then (s,0,[])else ((qA p n (jO p s x n).1 r).1,(qA p n (jO p s x n).1 r).2.1+1,(jO p s x n).2.1::(qA p n (jO p s x n).1 r).2.2)
theorem Va {p:aj} {n:Int}:∀ (l:List bF) (s:bW),mZ s->mZ (qA p n s l).1
 | [],s,h=>h
 | x::r,s,h=>by rw [qA];split;{exact h};exact Va r _ (Oq h)
theorem Vb {p:aj} {n:Int}:∀ (l:List bF) (s:bW),(qA p n s l).2.1<=l.length
 | [],s=>aa1 _
 | x::r,s=>by rw [qA];split;{exact abr _};exact Nat.succ_le_succ (Vb r _)
def Oi (k:Nat) (s:bW) (cut:Bool):AV:=bI 67 [.own (.b 1) k 0 k none,encS s,.bool cut]
abbrev oz (l:List zV):Ob:=dw 137 gy uU l
theorem O6 (p:aj) (s:bW) (a:mZ s):AC Tryz.prog T aJ 64 [ak p,encS s] [] (.bool (!(aK p s).isEmpty)) []:=by
 refine aX Tryz.func64 ?_;refine sg rfl (sq ?_);refine WP.ent (st':=aN [(2,.rp 26 (ak p)),(3,.rp 62 (encS s)),(4,.bool false)] []) (em [(.s 2 0,1),(.s 3 0,1)] ⟨sF,sF,tt⟩ ⟨rq,rq,cq,tt⟩ trivial) ?_;refine rgs [CG.pure (.tup [dn (aK p s),.int (nR p s)])] rfl ?_ ?_
 ·have b:=zo p s a;exact au
 refine sg rfl (rX ?_);refine fin1 hT (by rfl) ?_;cases (aK p s) <;> simp
def fJ (p:aj) (l:List bF) (b:gq):bW×Int×Int :=
 if fZ p l.length b≠0 then (st0,fZ p l.length b,0)else if b.steps<l.length then (st0,2,b.steps)else
 if (qA p b.fuel (aP p b.fuel).1 l).2.1<l.length then (st0,5,(qA p b.fuel (aP p b.fuel).1 l).2.1)else ((qA p b.fuel (aP p b.fuel).1 l).1,0,0)
theorem Q5 {p:aj} {l:List bF} {b:gq}:mZ (fJ p l b).1:=by
 unfold fJ;split
 ·exact pU
 split
 ·exact pU
 split
 ·exact pU
 exact Va _ _ vg
abbrev Dc (evs:List zV) (s:bW) (c:Bool):Ob := .cells ⟨67,1,λ_=>Oi evs.length s c,0⟩
theorem YC (s:bW) (e:zV) (evs:List zV) (hl:evs.length<=256) (f:bW) (c:Bool):AC Tryz.prog T aJ 63 [encS s,gy e,.ptr (.b 0) 1 0 []] [Dc evs f c,oz evs] (.tup []) [Dc (evs++[e]) f c,oz (evs++[e])]:=by
 refine aX Tryz.func63 ?_;refine sg rfl (wQ [(.s 4 0,1)] [(2,.ptr (.b 0) 1 0 []),(4,.rp 137 (gy e))] [(.b 0,Dc evs f c),(.b 1,oz evs)] ⟨obs rfl,obs rfl,tt⟩ ?_);refine rgs [] rfl ?_ ?_
 ·(have d:(T 137).bytes<=1024:=by decide);have hm:(evs.length+1)*(T 137).bytes<=(evs.length+1)*1024:=adI _ d;exact au
 refine aH hT [] (ts:=[]) (l:=[]) trivial trivial ⟨obs rfl (hg:=q0 (ah ?_)),dJ (λa=>by rfl) rfl rfl (by rw [bZ]) rfl rfl (CU (z:=(T 137).zero) rfl rfl (λq g=>rfl)),tt⟩ rfl rfl rfl;rw [bZ];exact bP λq=>by match q with | 0 | 1 | 2 | q+3=>rfl
theorem Wi (a:Id->Id) (c:Yn):ren a (uV c)=uV c:=bP (λq=>by match q with | 0 | 1 | 2 | q+3=>rfl)
theorem Ec (a:Id->Id) (e:zV):ren a (gy e)=gy e:=bP (λq=>by
 match q with
 | 0 | 1 | 2 | 3 | 4 | 5 | 6 | 8 | q+9=>rfl
 | 7=>exact bP λi=>Wi a _)
theorem Gg {a:Id->Id} (h:a (.b 1) = .b 1) (k:Nat) (s:bW) (c:Bool):ren a (Oi k s c)=Oi k s c:=bP (λq=>by
 match q with
 | 0=>show AV.own (a (.b 1)) k 0 k none=_;rw [h];rfl
 | 1=>exact qo a s
 | 2 | q+3=>rfl)
theorem VK (s:bW) (e:zV) (evs:List zV) (hl:evs.length<=256) (a:bW) (c:Bool):AC Tryz.prog T aJ 63 [ren (sig [.b 0,.b 1] 0) (encS s),ren (sig [.b 0,.b 1] 0) (gy e),.ptr (.b 0) 1 0 []] [fK (sig [.b 0,.b 1] 0) (Dc evs a c),fK (sig [.b 0,.b 1] 0) (oz evs)] (.tup []) [Dc (evs++[e]) a c,oz (evs++[e])]:=by
 have d:fK (sig [.b 0,.b 1] 0) (Dc evs a c)=Dc evs a c:=by show Ob.cells ⟨_,_,λ_=>ren _ (Oi evs.length a c),_⟩=_;rw [Gg rfl]
 rw [qo,Ec,d,jU (Ec _)];exact YC s e evs hl a c
theorem Ve (p:aj) (l:List bF) (b:gq) (u:l.length<=256):AC Tryz.prog T aJ 110 [ak p,dn l,cu b,.clo 63 [.ptr (.b 0) 1 0 []]] [Dc [] st0 false,oz []] (.tup [encS (qA p b.fuel (aP p b.fuel).1 l).1,.int (qA p b.fuel (aP p b.fuel).1 l).2.1]) [Dc (qA p b.fuel (aP p b.fuel).1 l).2.2 st0 false,oz (qA p b.fuel (aP p b.fuel).1 l).2.2]:=by
 refine aX Tryz.func110 ?_;refine sg rfl (sq ?_);refine wQ [(.s 4 0,1),(.s 6 0,1)] [(4,.rp 26 (ak p)),(6,.rp 28 (cu b)),(1,dn l),(3,.clo 63 [.ptr (.b 0) 1 0 []]),(8,.ptr (.s 8 0) 1 0 [])] [(.b 0,Dc [] st0 false),(.b 1,oz []),(.s 8 0,.cells ⟨62,1,λ_=>(T 62).zero,0⟩)] ⟨obs rfl,obs rfl,obs rfl,tt⟩ (rgs [CG.pure (.tup [encS (aP p b.fuel).1,.int (aP p b.fuel).2])] rfl ?_ ?_)
 ·have j:=FV p b.fuel;exact au
 refine sq (sq ?_);refine WP.rowlen 1 rfl (λhl=>?_);refine rg [] rfl (bk ?_);refine WP.loop (α:=Nat×bW×List zV) (λ(⟨i,s,evs⟩:Nat×bW×List zV)=>aN [(1,dn l),(3,.clo 63 [.ptr (.b 0) 1 0 []]),(4,.rp 26 (ak p)),(6,.rp 28 (cu b)),(8,.ptr (.s 8 0) 1 0 []),(10,.ptr (.s 10 0) 1 0 []),(24,dn l),(25,.int l.length),(26,.int i)] [(.b 0,Dc evs st0 false),(.b 1,oz evs),(.s 8 0,.cells ⟨62,1,λ_=>(T 62).zero,0⟩),(.s 10 0,.cells ⟨62,1,λ_=>encS s,0⟩)]) (λ(⟨i,s,evs⟩:Nat×bW×List zV)=>i<=l.length/\mZ s/\(qA p b.fuel s (l.drop i)).1=(qA p b.fuel (aP p b.fuel).1 l).1/\(qA p b.fuel s (l.drop i)).2.1+i=(qA p b.fuel (aP p b.fuel).1 l).2.1/\evs.length<=i/\evs++(qA p b.fuel s (l.drop i)).2.2=(qA p b.fuel (aP p b.fuel).1 l).2.2) (λ(⟨i,s,evs⟩:Nat×bW×List zV)=>l.length - i) ?_ ?_
 ·refine ⟨⟨0,(aP p b.fuel).1,[]⟩,?_,?_⟩;{exact ⟨abr _,vg,rfl,rfl,aa1 _,rfl⟩};refine eX cX ⟨obs rfl,obs rfl,obs rfl,obs rfl,tt⟩
 rintro ⟨i,s,evs⟩ ⟨hi,n,c,d,o,a⟩;refine sg rfl (sq ?_);refine cd rfl (λg=>?_) (λg=>?_);{(have e:i<l.length:=by simp [-List.getD_eq_getElem?_getD]at g;omega);(have hdr:l.drop i=l.getD i eU::l.drop (i+1):=by rw [List.drop_eq_getElem_cons e];simp [e]);obtain ⟨x,hx⟩:∃ x,l.getD i eU=x:=⟨_,rfl⟩;rw [hdr,hx,qA]at c d a;refine sk (sq (bk (sq (rg [] rfl ?_))));refine sq (wF [(.s 13 0,1)] ⟨sF,tt⟩ [(1,dn l),(3,.clo 63 [.ptr (.b 0) 1 0 []]),(4,.rp 26 (ak p)),(6,.rp 28 (cu b)),(8,.ptr (.s 8 0) 1 0 []),(10,.ptr (.s 10 0) 1 0 []),(12,.int i),(13,.rp 122 (bn x)),(24,dn l),(25,.int l.length),(26,.int i)] [(.b 0,Dc evs st0 false),(.b 1,oz evs),(.s 8 0,.cells ⟨62,1,λ_=>(T 62).zero,0⟩),(.s 10 0,.cells ⟨62,1,λ_=>encS s,0⟩)] ⟨cq,cq,cq,cq,cq,cq,cq,⟨rfl,_,rfl,bH rfl rfl (by decide) rfl (by rw [<- hx];rfl) rfl⟩,cq,cq,cq,tt⟩ ⟨obs rfl,obs rfl,obs rfl,obs rfl,tt⟩ ?_);refine rgs [CG.pure (.tup [encS (jO p s x b.fuel).1,gy (jO p s x b.fuel).2.1,.int (jO p s x b.fuel).2.2])] rfl ?_ ?_;{have j:=XW p s x b.fuel n;exact au};refine sq (sq (rg [] rfl ?_));refine cd rfl (λh=>?_) (λh=>?_);{(have he:(jO p s x b.fuel).2.2≠0:=by simpa using h);refine sg rfl (rX ?_);rw [aaI he]at c d a;simp only [acB]at a;rw [<- c,<- d,<- a];refine aH hT [(.s 8 0,1)] (ts:=[(8,.rp 62 (encS s)),(9,.int (0+i:Nat))]) (l:=[encS s,.int (0+i:Nat)]) ⟨sF,tt⟩ ⟨⟨rfl,_,rfl,rpv (hF:=by simp [dL,aQ])⟩,⟨rfl,_,rfl,ah (by simp)⟩,tt⟩ ⟨obs rfl,obs rfl,tt⟩ rfl rfl rfl};(have he:¬ (jO p s x b.fuel).2.2≠0:=by simpa using h);refine sk (sq (rg [] rfl ?_));refine wQ [(.s 15 0,1)] [(1,dn l),(3,.clo 63 [.ptr (.b 0) 1 0 []]),(4,.rp 26 (ak p)),(6,.rp 28 (cu b)),(8,.ptr (.s 8 0) 1 0 []),(10,.ptr (.s 10 0) 1 0 []),(15,.rp 137 (gy (jO p s x b.fuel).2.1)),(24,dn l),(25,.int l.length),(26,.int i)] [(.b 0,Dc evs st0 false),(.b 1,oz evs),(.s 8 0,.cells ⟨62,1,λ_=>(T 62).zero,0⟩),(.s 10 0,.cells ⟨62,1,λ_=>encS (jO p s x b.fuel).1,0⟩)] ⟨obs rfl,obs rfl,obs rfl,obs rfl,tt⟩ (rgs [⟨true,[.b 0,.b 1],.tup [],[Dc (evs++[(jO p s x b.fuel).2.1]) st0 false,oz (evs++[(jO p s x b.fuel).2.1])]⟩] rfl ?_ ?_);{have j:=VK (jO p s x b.fuel).1 (jO p s x b.fuel).2.1 evs (by omega) st0 false;have r:kU [.b 0,.b 1] [Dc evs st0 false,oz evs]:=⟨λ_ _=>rfl,λ_ _=>rfl,tt⟩;have t:kU (bs 2) [Dc (evs++[(jO p s x b.fuel).2.1]) st0 false,oz (evs++[(jO p s x b.fuel).2.1])]:=⟨λ_ _=>rfl,λ_ _=>rfl,tt⟩;exact au};refine rg [] rfl ⟨⟨i+1,(jO p s x b.fuel).1,evs++[(jO p s x b.fuel).2.1]⟩,?_,?_,?_⟩;{rw [Y0 he]at c d a;exact ⟨e,Oq n,c,by rw [<- d];show _+(i+1)=(_+1)+i;omega,by rw [bZ];omega,by rw [<- a,acs];rfl⟩};{refine eX cX ⟨obs rfl (hg:=q0 (ah (Gg rfl _ _ _))),obs rfl (hg:=λq j=>ah (Ec _ _)),obs rfl,obs rfl,tt⟩};(try simp only []);first | omega | grind};(have e:i=l.length:=by simp [-List.getD_eq_getElem?_getD]at g;omega);refine xt (sq (rg [] rfl ?_));refine rX ?_;rw [e,List.drop_length]at c d a;have k:s=_:=c;have m:0+l.length=_:=d;have f:evs++[]=_:=a;rw [acB]at f;rw [<- k,<- m,<- f];refine aH hT [(.s 8 0,1)] (ts:=[(8,.rp 62 (encS s)),(9,.int (0+l.length:Nat))]) (l:=[encS s,.int (0+l.length:Nat)]) ⟨sF,tt⟩ ⟨⟨rfl,_,rfl,rpv (hF:=by simp [dL,aQ])⟩,⟨rfl,_,rfl,ah (by simp)⟩,tt⟩ ⟨obs rfl,obs rfl,tt⟩ rfl rfl rfl
def yj (p:aj) (l:List bF) (b:gq):List zV:=if fZ p l.length b≠0 then []else if b.steps<l.length then []else (qA p b.fuel (aP p b.fuel).1 l).2.2
theorem YB (p:aj) (l:List bF) (b:gq):AC Tryz.prog T aJ 62 [ak p,dn l,cu b,.clo 63 [.ptr (.b 0) 1 0 []]] [Dc [] st0 false,oz []] (.tup [encS (fJ p l b).1,.int (fJ p l b).2.1,.int (fJ p l b).2.2]) [Dc (yj p l b) st0 false,oz (yj p l b)]:=by
 refine aX Tryz.func62 ?_;refine sg rfl (sq (sq ?_));refine wQ [(.s 4 0,1),(.s 6 0,1)] [(4,.rp 26 (ak p)),(6,.rp 28 (cu b)),(1,dn l),(3,.clo 63 [.ptr (.b 0) 1 0 []]),(8,.ptr (.s 8 0) 1 0 [])] [(.b 0,Dc [] st0 false),(.b 1,oz []),(.s 8 0,.cells ⟨62,1,λ_=>(T 62).zero,0⟩)] ⟨obs rfl,obs rfl,obs rfl,tt⟩ (rgs [CG.pure (.int (fZ p l.length b))] rfl ?_ ?_)
 ·have d:=QY p l.length b;exact au
 refine sg rfl (cd rfl (λf=>?_) (λf=>?_))
 ·(have hf:fZ p l.length b≠0:=by simpa using f);refine sg rfl (rX ?_);(have e:fJ p l b=(st0,fZ p l.length b,0):=by rw [fJ,aaI hf]);(have a:yj p l b=[]:=by rw [yj,aaI hf]);rw [e,a];refine aH hT [(.s 8 0,1)] (ts:=[(8,.rp 62 (encS st0)),(9,.int (fZ p l.length b)),(10,.int 0)]) (l:=[encS st0,.int (fZ p l.length b),.int 0]) ⟨sF,tt⟩ ⟨⟨rfl,_,rfl,bH rfl rfl (by simp [dL,aQ]) rfl zeroS rfl⟩,cq,cq,tt⟩ ⟨obs rfl,obs rfl,tt⟩ rfl rfl rfl
 (have hf:fZ p l.length b=0:=by simpa using f);have hb:=(N8 hf).2.2.1;refine sk (sq (sq (rg [] rfl ?_)));refine cd rfl (λg=>?_) (λg=>?_);{(have hl:b.steps<l.length:=by simpa using g);refine sq (dr [] rfl ?_);refine rX ?_;(have e:fJ p l b=(st0,2,b.steps):=by rw [fJ,Y0 (by omega),aaI hl]);(have a:yj p l b=[]:=by rw [yj,Y0 (by omega),aaI hl]);rw [e,a];refine aH hT [(.s 8 0,1)] (ts:=[(8,.rp 62 (encS st0)),(9,.int 2),(10,.int b.steps)]) (l:=[encS st0,.int 2,.int b.steps]) ⟨sF,tt⟩ ⟨⟨rfl,_,rfl,bH rfl rfl (by simp [dL,aQ]) rfl zeroS rfl⟩,cq,cq,tt⟩ ⟨obs rfl,obs rfl,tt⟩ rfl rfl rfl};(have hl:¬ b.steps<l.length:=by simp at g;omega);(have a:yj p l b=(qA p b.fuel (aP p b.fuel).1 l).2.2:=by rw [yj,Y0 (by omega),Y0 hl]);refine sk (sq (rgs [⟨true,[.b 0,.b 1],.tup [encS (qA p b.fuel (aP p b.fuel).1 l).1,.int (qA p b.fuel (aP p b.fuel).1 l).2.1],[Dc (qA p b.fuel (aP p b.fuel).1 l).2.2 st0 false,oz (qA p b.fuel (aP p b.fuel).1 l).2.2]⟩] rfl ?_ ?_));{have d:=Ve p l b (by omega);have i:ren (sig [.b 0,.b 1] 0) (ak p)=ak p:=vF _ p;have j:ren (sig [.b 0,.b 1] 0) (cu b)=cu b:=EY _ b;(have k:fK (sig [.b 0,.b 1] 0) (Dc [] st0 false)=Dc [] st0 false:=by show Ob.cells ⟨_,_,λ_=>ren _ (Oi 0 st0 false),_⟩=_;rw [Gg rfl];rfl);have m:fK (sig [.b 0,.b 1] 0) (oz [])=oz []:=jU (Ec _);rw [<- i,<- j,<- k,<- m]at d;have n:kU [.b 0,.b 1] [Dc [] st0 false,oz []]:=⟨λ_ _=>rfl,λ_ _=>rfl,tt⟩;have o:kU (bs 2) [Dc (qA p b.fuel (aP p b.fuel).1 l).2.2 st0 false,oz (qA p b.fuel (aP p b.fuel).1 l).2.2]:=⟨λ_ _=>rfl,λ_ _=>rfl,tt⟩;exact au};refine sq (sq ?_);obtain ⟨z,c⟩:∃ z,qA p b.fuel (aP p b.fuel).1 l=z:=⟨_,rfl⟩;rw [c]at a ⊢;refine rg [] rfl (cd rfl (λh=>?_) (λh=>?_));{(have hw:z.2.1<l.length:=by simpa using h);refine sg rfl (rX ?_);(have e:fJ p l b=(st0,5,(z.2.1:Int)):=by rw [fJ,Y0 (by omega),Y0 hl,aaI (by rw [c];exact hw),c]);rw [e,a];refine aH hT [(.s 8 0,1)] (ts:=[(8,.rp 62 (encS st0)),(9,.int 5),(10,.int (z.2.1:Nat))]) (l:=[encS st0,.int 5,.int (z.2.1:Nat)]) ⟨sF,tt⟩ ⟨⟨rfl,_,rfl,bH rfl rfl (by simp [dL,aQ]) rfl zeroS rfl⟩,cq,cq,tt⟩ ⟨obs rfl (hg:=q0 (ah (Gg rfl _ _ _))),obs rfl (hg:=λq d=>ah (Ec _ _)),tt⟩ rfl rfl rfl};(have hw:¬ z.2.1<l.length:=by simp at h;omega);refine sk (sq (rg [] rfl ?_));refine rX ?_;(have e:fJ p l b=(z.1,0,0):=by rw [fJ,Y0 (by omega),Y0 hl,Y0 (by rw [c];exact hw),c]);rw [e,a];refine aH hT [(.s 8 0,1)] (ts:=[(8,.rp 62 (encS z.1)),(9,.int 0),(10,.int 0)]) (l:=[encS z.1,.int 0,.int 0]) ⟨sF,tt⟩ ⟨⟨rfl,_,rfl,bH rfl rfl (by simp [dL,aQ]) rfl (qo _ z.1) rfl⟩,cq,cq,tt⟩ ⟨obs rfl (hg:=q0 (ah (Gg rfl _ _ _))),obs rfl (hg:=λq d=>ah (Ec _ _)),tt⟩ rfl rfl rfl
structure PTr where
 evs:List zV
 fin:bW
 cut:Bool
def wo (t:PTr):AV:=bI 67 [zK false t.evs,encS t.fin,.bool t.cut]
def pJ (p:aj) (l:List bF) (b:gq):PTr :=
 if (fJ p l b).2.1≠0 then ⟨[],st0,false⟩else ⟨yj p l b,(fJ p l b).1,decide ((l.length:Int)=b.steps) && !(aK p (fJ p l b).1).isEmpty⟩
theorem Q7 {p:aj} {l:List bF} {b:gq} (h:(fJ p l b).2.1=0):(fJ p l b).2.2=0:=by
 unfold fJ at h ⊢;split
 ·rfl
 split
 ·rename_i a c;rw [Y0 a,aaI c]at h;cases h
 split
 ·rename_i a c d;rw [Y0 a,Y0 c,aaI d]at h;cases h
 rfl
def yY (i:Id) (k:Nat) (s:bW) (cut:Bool):AV:=bI 67 [.own i k 0 k none,encS s,.bool cut]
theorem YK {a:Id->Id} {i j:Id} (h:a i=j) (k:Nat) (s:bW) (c:Bool):ren a (yY i k s c)=yY j k s c:=bP (λq=>by
 match q with
 | 0=>show AV.own (a i) k 0 k none=_;rw [h];rfl
 | 1=>exact qo a s
 | 2 | q+3=>rfl)
theorem YD (p:aj) (l:List bF) (b:gq):AC Tryz.prog T aJ 62 [ren (sig [.s 9 0,.s 900 0] 0) (ak p),dn l,ren (sig [.s 9 0,.s 900 0] 0) (cu b),.clo 63 [.ptr (.b 0) 1 0 []]] [fK (sig [.s 9 0,.s 900 0] 0) (.cells ⟨67,1,λ_=>yY (.s 900 0) 0 st0 false,0⟩),fK (sig [.s 9 0,.s 900 0] 0) (oz [])] (.tup [encS (fJ p l b).1,.int (fJ p l b).2.1,.int (fJ p l b).2.2]) [Dc (yj p l b) st0 false,oz (yj p l b)]:=by
 have e:fK (sig [.s 9 0,.s 900 0] 0) (.cells ⟨67,1,λ_=>yY (.s 900 0) 0 st0 false,0⟩)=Dc [] st0 false:=by show Ob.cells ⟨_,_,λ_=>ren _ (yY (.s 900 0) 0 st0 false),_⟩=_;rw [YK (j := .b 1) rfl];rfl
 rw [e,vF,EY,jU (Ec _)];exact YB p l b
theorem Yx (p:aj) (l:List bF) (b:gq):AC Tryz.prog T aJ 26 [ak p,dn l,cu b] [] (.tup [wo (pJ p l b),.int (fJ p l b).2.1,.int (fJ p l b).2.2]) []:=by
 refine aX Tryz.func26 ?_;refine sg rfl (sq ?_);refine WP.ent (st':=aN [(3,.rp 26 (ak p)),(5,.rp 28 (cu b)),(1,dn l),(6,.ptr (.s 6 0) 1 0 [])] [(.s 6 0,.cells ⟨67,1,λ_=>(T 67).zero,0⟩)]) (em [(.s 3 0,1),(.s 5 0,1)] ⟨sF,sF,tt⟩ ⟨rq,rq,cq,cq,tt⟩ ⟨obs rfl,tt⟩) ?_;refine rg [] rfl (sq ?_);refine WP.ent (st':=aN [(1,dn l),(3,.rp 26 (ak p)),(5,.rp 28 (cu b)),(6,.ptr (.s 6 0) 1 0 []),(9,.ptr (.s 9 0) 1 0 [])] [(.s 6 0,.cells ⟨67,1,λ_=>(T 67).zero,0⟩),(.s 9 0,.cells ⟨67,1,λ_=>yY (.s 900 0) 0 st0 false,0⟩),(.s 900 0,oz [])]) ?_ ?_
 ·refine eX cX ⟨obs rfl,obs rfl (hg:=q0 ⟨_,rfl,λi hi=>by match i with | 0=>exact gB | 1=>exact ah zeroS | 2=>exact ah rfl | i+3=>exact absurd hi (by simp)⟩),⟨λ_ _=>rfl,.inr ⟨rfl,137,_,rfl,by decide⟩⟩,tt⟩
 refine rgs [⟨true,[.s 9 0,.s 900 0],.tup [encS (fJ p l b).1,.int (fJ p l b).2.1,.int (fJ p l b).2.2],[Dc (yj p l b) st0 false,oz (yj p l b)]⟩] rfl ?_ ?_
 ·have e:=YD p l b;have j:kU [.s 9 0,.s 900 0] [.cells ⟨67,1,λ_=>yY (.s 900 0) 0 st0 false,0⟩,oz []]:=⟨λ_ _=>rfl,λ_ _=>rfl,tt⟩;have k:kU (bs 2) [Dc (yj p l b) st0 false,oz (yj p l b)]:=⟨λ_ _=>rfl,λ_ _=>rfl,tt⟩;exact au
 refine sq (sq ?_);obtain ⟨z,a⟩:∃ z,fJ p l b=z:=⟨_,rfl⟩;obtain ⟨evs,he⟩:∃ evs,yj p l b=evs:=⟨_,rfl⟩;have g:mZ z.1:=by rw [<- a];exact Q5
 have ht:pJ p l b=if z.2.1≠0 then ⟨[],st0,false⟩else ⟨evs,z.1,decide ((l.length:Int)=b.steps) && !(aK p z.1).isEmpty⟩:=by rw [pJ,a,he]
 rw [ht,a,he];refine rg [] rfl (cd rfl (λc=>?_) (λc=>?_))
 ·(have hf:z.2.1≠0:=by simpa using c);refine sg rfl (rX ?_);rw [aaI hf];exact JH hT [] trivial rfl rfl rfl rfl ⟨_,rfl,λi hi=>by match i with | 0=>exact dI (by decide) | 1=>exact ah zeroS | 2=>exact ah rfl | i+3=>exact absurd hi (by simp)⟩ rfl rfl
 (have hf:¬ z.2.1≠0:=by simpa using c);refine sk (sq (rg [] rfl ?_));refine sq (WP.ent (st':=aN [(1,dn l),(3,.rp 26 (ak p)),(5,.rp 28 (cu b)),(6,.ptr (.s 6 0) 1 0 []),(9,.ptr (.s 9 0) 1 0 []),(10,.rp 62 (encS z.1))] [(.s 6 0,.cells ⟨67,1,λ_=>(T 67).zero,0⟩),(.s 9 0,.cells ⟨67,1,λ_=>yY (.s 900 0) evs.length z.1 false,0⟩),(.s 900 0,oz evs)]) ?_ ?_);{refine em [(.s 10 0,1)] ⟨sF,tt⟩ ⟨cq,cq,cq,cq,cq,⟨rfl,_,rfl,bH rfl rfl (by decide) rfl (qo _ z.1) rfl⟩,tt⟩ ⟨obs rfl,obs rfl (hg:=q0 (ah (bP λq=>by match q with | 0=>rfl | 1=>exact qo _ z.1 | 2=>rfl | q+3=>rfl))),obs rfl (hg:=λq e=>ah (Ec _ _)),tt⟩};refine rgs [CG.pure (.bool (!(aK p z.1).isEmpty))] rfl ?_ ?_;{have e:=O6 p z.1 g;exact au};refine sg rfl (rX ?_);(have d:(bif ((l.length:Int)==b.steps)then !(aK p z.1).isEmpty else false)=(decide ((l.length:Int)=b.steps) && !(aK p z.1).isEmpty):=by rw [show ((l.length:Int)==b.steps)=decide ((l.length:Int)=b.steps) by rw [abT];simp];cases decide ((l.length:Int)=b.steps) <;> rfl);(have f:z.2.2=0:=by rw [<- a];exact Q7 (by rw [a];omega));rw [Y0 hf,show z.2.1=0 by omega];refine JH hT [(.s 900 0,evs.length)] ⟨⟨_,rfl,aa1 _⟩,tt⟩ rfl rfl rfl rfl ⟨_,rfl,λi hi=>by match i with | 0=>exact gZ rfl rfl rfl (λh=>by cases h) (by simp [dL,aQ]) (λq e=>by rw [ab1];exact ⟨rfl,wJ.refl _⟩) | 1=>exact ah rfl | 2=>exact ah (ab5 (λz=>AV.bool z) d) | i+3=>exact absurd hi (by simp)⟩ rfl ?_;exact ab5 (Value.int .i64) f.symm
def ET (p:aj) (n:Int):bW->List bF->List bW
 | s,[]=>[s]
 | s,x::r=>if (jO p s x n).2.2≠0 then [s]else s::ET p n (jO p s x n).1 r
abbrev Bv (l:List bW):AV:=rowP 62 encS st0 l
def EM (p:aj) (l:List bF) (b:gq):List bW:=if (fJ p l b).2.1≠0 then []else ET p b.fuel (aP p b.fuel).1 l
def DW (p:aj) (l:List bF) (b:gq):List zV:=if (fJ p l b).2.1≠0 then []else (qA p b.fuel (aP p b.fuel).1 l).2.2
theorem QN {p:aj} {n:Int}:∀ (l:List bF) (s:bW),(qA p n s l).2.2.length=(qA p n s l).2.1
 | [],s=>rfl
 | x::r,s=>by rw [qA];split;{rfl};simp [QN r]
theorem QO {p:aj} {n:Int}:∀ (l:List bF) (s:bW),(ET p n s l).length=(qA p n s l).2.1+1
 | [],s=>rfl
 | x::r,s=>by rw [ET,qA];split;{rfl};simp [QO r]
theorem LG {p:aj} {n:Int}:∀ (l:List bF) (s:bW),(ET p n s l).getD (qA p n s l).2.1 st0=(qA p n s l).1
 | [],s=>rfl
 | x::r,s=>by rw [ET,qA];split;{rfl};simpa using LG r _
def eG (f:Nat->Bool):Nat->Nat
 | 0=>0
 | k+1=>eG f k+(if f k then 2 ^ k else 0)
theorem Iq (f:Nat->Bool):∀ k,eG f k<2 ^ k
 | 0=>Nat.one_pos
 | k+1=>by have:=Iq f k;rw [eG,Nat.pow_succ];split <;> omega
theorem JR (f:Nat->Bool):∀ k j,(eG f k).testBit j=(decide (j<k)&&f j)
 | 0,j=>by simp [eG]
 | k+1,j=>by have b:=Iq f k;have a:=JR f k j;rw [eG];rcases Nat.lt_trichotomy j k with h | h | h;{rw [show decide (j<k+1)=true from acj (by omega)];rw [show decide (j<k)=true from acj h]at a;split;{rw [ac4,Nat.testBit_two_pow_add_gt h,a]};exact a};{subst h;rw [show decide (j<j+1)=true from acj (by omega)];rw [show decide (j<j)=false from ab3 (by omega)]at a;split;{rename_i hf;rw [ac4,Nat.testBit_two_pow_add_eq,a,hf];rfl};rename_i hf;rw [acV,a];simpa using hf};rw [show decide (j<k+1)=false from ab3 (by omega),adl];refine adg ?_;have:2 ^ (k+1)<=2 ^ j:=ac9 (by decide) (by omega);rw [Nat.pow_succ]at this;split <;> omega
theorem Ip {n:Nat} {f:Nat->Bool} (hn:n<2 ^ 64) (h:∀ j,j<64->n.testBit j=f j):eG f 64=n:=by
 refine Nat.eq_of_testBit_eq λj=>?_;rw [JR];by_cases a:j<64
 ·rw [h j a,acj a,acL]
 rw [ab3 a,adl,adg];exact acC hn (ac9 (by decide) (by omega))
def uN (a:Int):Nat:=(wU a).toNat
abbrev nZ (a:Int):Prop := -9223372036854775808<=a/\a<=9223372036854775807
theorem AX (a:Int):wU a=uN a:=(adu (rF a).1).symm
theorem rG (a:Int):uN a<2 ^ 64:=by have:=rF a;unfold uN;omega
theorem ni (a:Int):(uN a:Int)=a % 18446744073709551616:=by rw [<- AX,wU,IntKind.wrap_u64]
theorem Vh {a:Int} (h:nZ a):wI (uN a)=a:=by rw [wI,IntKind.wrap_i64,ni];omega
theorem pI (a:Int):nZ (wI a):=by rw [wI,IntKind.wrap_i64];constructor <;> omega
theorem yD (n:Nat):uN (n:Int)=n % 2 ^ 64:=by have:=ni n;omega
theorem AZ (a:Int):uN (wI a)=uN a:=by have b:=ni (wI a);have c:=ni a;rw [wI,IntKind.wrap_i64]at b;rw [wI,IntKind.wrap_i64];omega
theorem FN {n:Nat} (h:n<2 ^ 64):uN (wI n)=n:=by rw [AZ,yD,adq h]
theorem Zg {a b:Int} (c:nZ a) (hb:nZ b) (h:uN a=uN b):a=b:=by rw [<- Vh c,<- Vh hb,h]
abbrev fA (a:Int) (k:Nat):Bool:=(uN a).testBit k
theorem uY {a:Int} {f:Nat->Bool} (b:nZ a) (h:∀ j,j<64->fA a j=f j):wI (eG f 64)=a:=by rw [Ip (rG a) h,Vh b]
theorem O5 {a:Int} (b:nZ a):∃ n:Nat,n<2 ^ 63/\((a=n /\ ∀ j,fA a j=n.testBit j)\/(a = -(n+1:Int) /\ ∀ j,fA a j=(decide (j<64) && !n.testBit j))):=by
 obtain ⟨c,d⟩:=b;rcases Int.lt_or_le a 0 with h | h
 ·refine ⟨(-a - 1).toNat,by omega,.inr ⟨by omega,λj=>?_⟩⟩;(have e:uN a=2 ^ 64 - ((-a - 1).toNat+1):=by have:=ni a;omega);show (uN a).testBit j=_;rw [e,adH (by omega)]
 refine ⟨a.toNat,by omega,.inl ⟨by omega,λj=>?_⟩⟩;(have e:uN a=a.toNat:=by have:=ni a;omega);show (uN a).testBit j=_;rw [e]
theorem kK (a:Int):(BitVec.ofInt 64 a).toNat=uN a:=by rw [BitVec.toNat_ofInt];have:=ni a;omega
theorem OO (x:Nat) {y:Nat} (h:y<2 ^ 64):x &&& y<2 ^ 64:=Nat.and_lt_two_pow x h
theorem E5 {x y:Nat} (hx:x<2 ^ 64) (h:y<2 ^ 64):x ||| y<2 ^ 64:=Nat.or_lt_two_pow hx h
theorem yB {n:Nat} (h:n<2 ^ 64):IntKind.u64.wrap (n:Int)=n:=by rw [IntKind.wrap_u64];omega
theorem Yc (a b:Int):bA .i64 a b=wI ((uN a &&& uN b:Nat):Int):=by
 unfold bA;rw [BitVec.toNat_and];show wI (((BitVec.ofInt 64 a).toNat &&& (BitVec.ofInt 64 b).toNat:Nat):Int)=_;rw [kK,kK]
theorem aby (a b:Int):bO .i64 a b=wI ((uN a ||| uN b:Nat):Int):=by
 unfold bO;rw [BitVec.toNat_or];show wI (((BitVec.ofInt 64 a).toNat ||| (BitVec.ofInt 64 b).toNat:Nat):Int)=_;rw [kK,kK]
theorem Zz (a b:Int):bX .i64 a b=wI ((uN a ^^^ uN b:Nat):Int):=by
 unfold bX;rw [BitVec.toNat_xor];show wI (((BitVec.ofInt 64 a).toNat ^^^ (BitVec.ofInt 64 b).toNat:Nat):Int)=_;rw [kK,kK]
theorem abz (a b:Int):bN .i64 a b=wI ((uN a &&& (2 ^ 64 - (uN b+1)):Nat):Int):=by
 unfold bN;rw [BitVec.toNat_and,BitVec.toNat_not];show wI (((BitVec.ofInt 64 a).toNat &&& (2 ^ 64 - 1 - (BitVec.ofInt 64 b).toNat):Nat):Int)=_;rw [kK,kK,Nat.sub_sub,ac4 1]
theorem OH {x y:Nat} (hx:x<2 ^ 64) (a:y<2 ^ 64):bA .u64 (x:Int) (y:Int)=((x &&& y:Nat):Int):=by
 unfold bA;rw [BitVec.toNat_and];show wU (((BitVec.ofInt 64 (x:Int)).toNat &&& (BitVec.ofInt 64 (y:Int)).toNat:Nat):Int)=_;rw [kK,kK,yD,yD,adq hx,adq a];exact yB (OO _ a)
theorem Yb {x y:Nat} (hx:x<2 ^ 64) (a:y<2 ^ 64):bO .u64 (x:Int) (y:Int)=((x ||| y:Nat):Int):=by
 unfold bO;rw [BitVec.toNat_or];show wU (((BitVec.ofInt 64 (x:Int)).toNat ||| (BitVec.ofInt 64 (y:Int)).toNat:Nat):Int)=_;rw [kK,kK,yD,yD,adq hx,adq a];exact yB (E5 hx a)
theorem IntKindX.wrap_i8 (n:Int):IntKind.i8.wrap n=(n+128) % 256 - 128:=by simp [IntKind.wrap,IntKind.bits,IntKind.signed];omega
theorem IntKindX.wrap_i16 (n:Int):IntKind.i16.wrap n=(n+32768) % 65536 - 32768:=by simp [IntKind.wrap,IntKind.bits,IntKind.signed];omega
theorem IntKindX.wrap_i32 (n:Int):IntKind.i32.wrap n=(n+2147483648) % 4294967296 - 2147483648:=by simp [IntKind.wrap,IntKind.bits,IntKind.signed];omega
theorem IntKindX.wrap_u8 (n:Int):IntKind.u8.wrap n=n % 256:=by simp [IntKind.wrap,IntKind.bits,IntKind.signed]
theorem IntKindX.wrap_u16 (n:Int):IntKind.u16.wrap n=n % 65536:=by simp [IntKind.wrap,IntKind.bits,IntKind.signed]
theorem IntKindX.wrap_u32 (n:Int):IntKind.u32.wrap n=n % 4294967296:=by simp [IntKind.wrap,IntKind.bits,IntKind.signed]
theorem yV (n k:Nat):(n:Int).fdiv (2 ^ k)=((n / 2 ^ k:Nat):Int):=by
 rw [Int.fdiv_eq_ediv_of_nonneg _ (by exact Int.le_of_lt (Int.pow_pos (by decide)))];simp
def oH (a k:Int):Int:=wI (bA .u64 ((wU a).fdiv (2 ^ (min (wU k).toNat 64))) 1)
def Gj (a k v:Int):Int:=wI (bO .u64 (wU a) (wU (wU v*2 ^ (min (wU k).toNat 64))))
theorem ZK {k:Nat} (h:k<64):min (wU (k:Int)).toNat 64=k:=by rw [AX,yD];simp;omega
theorem lu (a:Int) {k:Nat} (h:k<64):oH a k=jL (fA a k):=by
 have b:=rG a;rw [oH,ZK h,AX,yV,show (1:Int)=((1:Nat):Int)from rfl,OH (ado (adQ _ _) b) (by decide),Nat.and_one_is_mod];show wI _=_;unfold jL fA;rw [acJ];rcases Nat.mod_two_eq_zero_or_one (uN a / 2 ^ k)with e | e <;> rw [e] <;> rfl
theorem AY (f:Nat->Bool) {k:Nat} (h:k<64):Gj (wI (eG f k)) k (jL (f k))=wI (eG f (k+1)):=by
 have hb:=Iq f k;have a:eG f k<2 ^ 64:=acC hb (ac9 (by decide) (by omega));have hp:2 ^ k<2 ^ 64:=Nat.pow_lt_pow_right (by decide) h;rw [Gj,ZK h,AX (wI _),FN a,eG];cases f k with| true=>(have e:wU (wU (jL true)*2 ^ k)=((2 ^ k:Nat):Int):=by rw [show wU (jL true)=1 from rfl,Int.one_mul,show ((2:Int) ^ k)=((2 ^ k:Nat):Int) by simp];exact yB hp);rw [e,Yb a hp,Nat.or_comm];congr 2;have:=Nat.two_pow_add_eq_or_of_lt hb 1;rw [Nat.mul_one]at this;rw [<- this,aaI rfl,ac4]| false=>(have e:wU (wU (jL false)*2 ^ k)=((0:Nat):Int):=by rw [show wU (jL false)=0 from rfl,Int.zero_mul];rfl);rw [e,Yb a (by decide),Nat.or_zero];rfl
def BQ (op:Int) (x y:Bool):Bool:=if op=21 then x&&y else if op=22 then x||y else if op=23 then x != y else if op=24 then x && !y else false
theorem Y5 {op a b:Int} (h:21<=op/\op<=24):wI (eG (λk=>BQ op (fA a k) (fA b k)) 64)=lZ op a b:=by
 have d:=rG a;have c:=rG b;have key:∀ n:Nat,n<2 ^ 64->(∀ j,j<64->n.testBit j=BQ op (fA a j) (fA b j))->wI (eG (λk=>BQ op (fA a k) (fA b k)) 64)=wI n:=λn hn f=>by rw [Ip hn f]
 have e:op=21\/op=22\/op=23\/op=24:=by omega
 rcases e with rfl | rfl | rfl | rfl
 ·rw [show lZ 21 a b=bA .i64 a b from rfl,Yc];exact key _ (OO _ c) λj _=>Nat.testBit_and ..
 ·rw [show lZ 22 a b=bO .i64 a b from rfl,aby];exact key _ (E5 d c) λj _=>Nat.testBit_or ..
 ·rw [show lZ 23 a b=bX .i64 a b from rfl,Zz];exact key _ (Nat.xor_lt_two_pow d c) λj _=>Nat.testBit_xor ..
 rw [show lZ 24 a b=bN .i64 a b from rfl,abz];refine key _ (ado Nat.and_le_left d) λj g=>?_;rw [Nat.testBit_and,adH c,acj g];rfl
def uQ (a:Int) (b:Int) (z:Bool) (k:Nat):Bool:=if 0<=(k:Int) - b/\(k:Int) - b<64 then fA a ((k:Int) - b).toNat else z
def XE (b:Int):Int:=if b>64 then 64 else b
theorem abu {b:Int} (hb:nZ b) (h:0<=b):∃ n:Nat,n<=64/\XE b=n/\min (wU b).toNat 64=n/\min b.toNat 64=n:=by
 refine ⟨min b.toNat 64,by omega,by unfold XE;split <;> omega,?_,rfl⟩;have:wU b=b:=by rw [wU,IntKind.wrap_u64];omega
 rw [this]
theorem Yy {a:Int} {n:Nat}:wI (eG (uQ a n false) 64)=wI (a*2 ^ n):=by
 have e:uN (a*2 ^ n)=uN a*2 ^ n % 2 ^ 64:=by(have c:((uN (a*2 ^ n):Nat):Int)=((uN a*2 ^ n % 2 ^ 64:Nat):Int):=by rw [ni,Int.natCast_emod,Int.natCast_mul,ni,Int.natCast_pow];show a*2 ^ n % 18446744073709551616=a % 18446744073709551616*2 ^ n % 18446744073709551616;rw [Int.mul_emod,Int.mul_emod (a % 18446744073709551616) (2 ^ n),Int.emod_emod]);omega
 refine uY (pI _) λj b=>?_;show (uN (wI _)).testBit j=_;rw [AZ,e,Nat.testBit_mod_two_pow,Nat.testBit_mul_two_pow,acj b,acL,uQ];by_cases hn:n<=j
 ·rw [aaI (by omega),acj hn,acL,show ((j:Int) - n).toNat=j - n by omega]
 rw [Y0 (by omega),ab3 hn];rfl
theorem Vk {a:Int} {n:Nat}:wI (eG (uQ a (-(n:Int)) false) 64)=wI ((wU a).fdiv (2 ^ n)):=by
 have b:=rG a;rw [AX,yV];refine uY (pI _) λj c=>?_;show (uN (wI _)).testBit j=_;rw [FN (ado (adQ _ _) b),Nat.testBit_div_two_pow,uQ];by_cases hn:j+n<64
 ·rw [aaI (by omega),show ((j:Int) - -(n:Int)).toNat=j+n by omega]
 rw [Y0 (by omega)];exact adg (acC b (ac9 (by decide) (by omega)))
theorem Fv {m j:Nat} (hm:m<2 ^ 63) (a:63<=j):m.testBit j=false:=adg (acC hm (ac9 (by decide) a))
theorem Y1 {m:Nat} (hm:m<2 ^ 63) (j:Nat):fA (-(m+1:Int)) j=(decide (j<64) && !m.testBit j):=by
 have e:uN (-(m+1:Int))=2 ^ 64 - (m+1):=by have:=ni (-(m+1:Int));omega
 show (uN _).testBit j=_;rw [e,adH (by omega)]
theorem QX {a:Int} {n:Nat} (d:nZ a):wI (eG (uQ a (-(n:Int)) (fA a 63)) 64)=a.fdiv (2 ^ n):=by
 obtain ⟨m,hm,⟨rfl,hb⟩ | ⟨rfl,hb⟩⟩:=O5 d
 ·have hd:=adQ m (2 ^ n);rw [yV];obtain ⟨q,b⟩:∃ q,m / 2 ^ n=q:=⟨_,rfl⟩;rw [b]at hd ⊢;refine uY (by constructor <;> omega) λj c=>?_;(have e:uN (q:Int)=q:=by rw [yD];exact adq (by omega));show (uN _).testBit j=_;rw [e,<- b,Nat.testBit_div_two_pow,uQ,hb 63,Fv hm (aa1 _)];by_cases hn:j+n<64;{rw [aaI (by omega),hb,show ((j:Int) - -(n:Int)).toNat=j+n by omega]};rw [Y0 (by omega)];exact Fv hm (by omega)
 have hd:=adQ m (2 ^ n);(have e:(-(m+1:Int)).fdiv (2 ^ n) = -(((m / 2 ^ n:Nat):Int)+1):=by rw [Int.fdiv_eq_ediv_of_nonneg _ (Int.le_of_lt (Int.pow_pos (by decide)))];have hp:(0:Int)<2 ^ n:=Int.pow_pos (by decide);show Int.negSucc m / 2 ^ n=_;rw [Int.negSucc_ediv m hp,Int.natCast_ediv,Int.natCast_pow];rfl);rw [e];obtain ⟨q,b⟩:∃ q,m / 2 ^ n=q:=⟨_,rfl⟩;rw [b]at hd ⊢;refine uY (by constructor <;> omega) λj c=>?_;rw [Y1 (by omega),<- b,Nat.testBit_div_two_pow,uQ,hb 63,acj c,Fv hm (aa1 _)];by_cases hn:j+n<64;{rw [aaI (by omega),hb,show ((j:Int) - -(n:Int)).toNat=j+n by omega,acj hn]};rw [Y0 (by omega),Fv hm (by omega)];rfl
theorem abl (b:Int):bA .i64 b 63=((b % 64).toNat:Nat):=by
 have a:=ni b;rw [Yc,show uN 63=2 ^ 6 - 1 from rfl,adA,wI,IntKind.wrap_i64];omega
theorem YF {a b:Int}:wI (eG (λk=>fA a ((k+64 - (b % 64).toNat) % 64)) 64)=lZ 28 a b:=by
 have c:=rG a;obtain ⟨s,m⟩:∃ s,(b % 64).toNat=s:=⟨_,rfl⟩;have d:s<64:=by omega
 rw [show lZ 28 a b=wI (PD (wU a) (bA .i64 b 63))from rfl,abl,m];have e:bA .u64 (wU ((s:Nat):Int)) 63=((s:Nat):Int):=by rw [AX,yD,show (63:Int)=((63:Nat):Int)from rfl,OH (by omega) (by decide),show 63=2 ^ 6 - 1 from rfl,adA];omega
 have f:wU (64 - ((s:Nat):Int))=((64 - s:Nat):Int):=by rw [wU,IntKind.wrap_u64];omega
 have g:wU ((uN a:Int)*2 ^ s)=((uN a*2 ^ s % 2 ^ 64:Nat):Int):=by rw [wU,IntKind.wrap_u64];simp
 rw [PD,e,f,ab6,ab6,ada (by omega:s<=64),ada (by omega:64 - s<=64),AX a,yV,g,Yb (by omega) (ado (adQ _ _) c)];refine uY (pI _) λj l=>?_;show (uN (wI _)).testBit j=_;rw [FN (E5 (by omega) (ado (adQ _ _) c)),Nat.testBit_or,Nat.testBit_mod_two_pow,Nat.testBit_mul_two_pow,Nat.testBit_div_two_pow,acj l,acL];by_cases h:s<=j
 ·rw [acj h,acL,adg (i:=j+(64 - s)) (acC c (ac9 (by decide) (by omega))),Bool.or_false,show (j+64 - s) % 64=j - s by omega]
 rw [ab3 h,adl,Bool.false_or,show (j+64 - s) % 64=j+(64 - s) by omega]
def kY (a:Int) (n:Nat) (sign:Bool) (k:Nat):Bool:=if k<n then fA a k else sign&&fA a (n - 1)
theorem wz {a x:Int} {n:Nat} (hn:n<=32) {sign:Bool} (hw:nZ x) (hx:uN x=if (sign&&fA a (n - 1))=true then 2 ^ n*(2 ^ (64 - n) - 1)+uN a % 2 ^ n else uN a % 2 ^ n):wI (eG (kY a n sign) 64)=x:=by
 refine uY hw λj c=>?_;have hm:uN a % 2 ^ n<2 ^ n:=adU _ (Nat.two_pow_pos n);show (uN x).testBit j=_;rw [hx,kY];split
 ·rename_i h;rw [ac8 _ hm,Nat.testBit_mod_two_pow,Nat.testBit_two_pow_sub_one,h];by_cases b:j<n;{rw [aaI b,aaI b,acj b,acL]};rw [Y0 b,Y0 b];exact acj (by omega)
 rename_i h;rw [Nat.testBit_mod_two_pow];by_cases b:j<n;{rw [aaI b,acj b,acL]};rw [Y0 b,ab3 b,adl,Bool.eq_false_iff.2 h]
theorem wu (a:Int):wI (eG (kY a 8 true) 64)=lC 10 a/\wI (eG (kY a 16 true) 64)=lC 11 a/\wI (eG (kY a 32 true) 64)=lC 12 a/\wI (eG (kY a 8 false) 64)=lC 13 a/\wI (eG (kY a 16 false) 64)=lC 14 a/\wI (eG (kY a 32 false) 64)=lC 15 a:=by
 have h:=ni a;refine ⟨?_,?_,?_,?_,?_,?_⟩
 ·refine (wz (x:=wI (IntKind.i8.wrap a)) (by decide) (pI _) ?_).trans rfl;rw [AZ];have b:=ni (IntKind.i8.wrap a);rw [IntKindX.wrap_i8]at b ⊢;rw [acL,fA,acJ];simp only [abK];split <;> omega
 ·refine (wz (x:=wI (IntKind.i16.wrap a)) (by decide) (pI _) ?_).trans rfl;rw [AZ];have b:=ni (IntKind.i16.wrap a);rw [IntKindX.wrap_i16]at b ⊢;rw [acL,fA,acJ];simp only [abK];split <;> omega
 ·refine (wz (x:=wI (IntKind.i32.wrap a)) (by decide) (pI _) ?_).trans rfl;rw [AZ];have b:=ni (IntKind.i32.wrap a);rw [IntKindX.wrap_i32]at b ⊢;rw [acL,fA,acJ];simp only [abK];split <;> omega
 ·refine (wz (x:=wI (IntKind.u8.wrap a)) (by decide) (pI _) ?_).trans rfl;rw [AZ];have b:=ni (IntKind.u8.wrap a);rw [IntKindX.wrap_u8]at b ⊢;rw [adl];simp only [acR,acG];omega
 ·refine (wz (x:=wI (IntKind.u16.wrap a)) (by decide) (pI _) ?_).trans rfl;rw [AZ];have b:=ni (IntKind.u16.wrap a);rw [IntKindX.wrap_u16]at b ⊢;rw [adl];simp only [acR,acG];omega
 refine (wz (x:=wI (IntKind.u32.wrap a)) (by decide) (pI _) ?_).trans rfl;rw [AZ];have b:=ni (IntKind.u32.wrap a);rw [IntKindX.wrap_u32]at b ⊢;rw [adl];simp only [acR,acG];omega
theorem Sz (a:Int) {k:Nat} (h:k<64):bA .u64 ((wU a).fdiv (2 ^ min k 64)) 1=(if fA a k then 1 else 0:Nat):=by
 rw [ada (by omega),AX,yV,show (1:Int)=((1:Nat):Int)from rfl,OH (ado (adQ _ _) (rG a)) (by decide),Nat.and_one_is_mod,fA,acJ];rcases Nat.mod_two_eq_zero_or_one (uN a / 2 ^ k)with e | e <;> rw [e] <;> rfl
theorem RP (a:Int):∀ k,k<=64 -> ∃ n:Nat,AL a k=n/\n<2 ^ 64 /\ ∀ j,j<64->n.testBit j=(decide (63 - j<k)&&fA a (63 - j))
 | 0,_=>⟨0,rfl,by decide,λj d=>by simp⟩
 | k+1,hk=>by obtain ⟨n,f,c,g⟩:=RP a k (by omega);have hp:2 ^ (63 - k)<2 ^ 64:=Nat.pow_lt_pow_right (by decide) (by omega);(have hm:min (63 - k) 64=63 - k:=by omega);cases hb:fA a k with| true=>refine ⟨n ||| 2 ^ (63 - k),?_,E5 c hp,λj d=>?_⟩;{rw [AL,Sz a (by omega),hb,f,aaI rfl,hm,show ((1:Nat):Int)*2 ^ (63 - k)=((2 ^ (63 - k):Nat):Int) by simp,show wU ((2 ^ (63 - k):Nat):Int)=_ from yB hp,Yb c hp]};rw [Nat.testBit_or,g j d,Nat.testBit_two_pow];by_cases e:63 - k=j;{rw [show 63 - j=k by omega,hb];simp [e]};rw [ab3 e,Bool.or_false];by_cases b:63 - j<k;{rw [acj b,acj (by omega:63 - j<k+1)]};rw [ab3 b,ab3 (by omega:¬ 63 - j<k+1)]| false=>refine ⟨n,?_,c,λj d=>?_⟩;{rw [AL,Sz a (by omega),hb,f];rw [show wU (((if false=true then 1 else 0:Nat):Int)*2 ^ (min (63 - k) 64))=((0:Nat):Int) by simp;rfl,Yb c (by decide),Nat.or_zero]};rw [g j d];by_cases e:63 - j=k;{rw [e,hb,Bool.and_false,Bool.and_false]};by_cases b:63 - j<k;{rw [acj b,acj (by omega:63 - j<k+1)]};rw [ab3 b,ab3 (by omega:¬ 63 - j<k+1)]
theorem XA (a:Int):wI (eG (λk=>fA a (63 - k)) 64)=NY a:=by
 obtain ⟨n,b,c,d⟩:=RP a 64 (aa1 _);rw [NY,b,Ip c λj e=>?_];rw [d j e,acj (by omega),acL]
def EK (a:Int):Nat->Nat
 | 0=>0
 | k+1=>if fA a k then 0 else EK a k+1
theorem JW {a:Int} {L:Nat} (c:uN a<2 ^ L) (b:L=0\/2 ^ (L - 1)<=uN a):∀ k,L<=k->EK a k=k - L
 | 0,h=>by simp [EK]
 | k+1,h=>by rcases acf k L with hk | hk;{(obtain rfl:L=k+1:=by omega);(have hb:fA a k=true:=by refine Nat.testBit_of_two_pow_le_and_two_pow_add_one_gt ?_ c;rcases b with b | b;{omega};simpa using b);rw [EK,aaI hb];omega};have hb:fA a k=false:=adg (acC c (ac9 (by decide) hk));rw [EK,Y0 (by rw [hb];decide),JW c b k hk];omega
theorem Xf (a:Int):((EK a 64:Nat):Int)=lC 5 a:=by
 rw [show lC 5 a=64 - (Go.Lib.bitLen (wU a).toNat:Int)from rfl];show _=64 - (Go.Lib.bitLenAux 64 (uN a):Int);by_cases b:uN a=0
 ·rw [JW (L:=0) (by omega) (.inl rfl) 64 (by omega),b,Go.Lib.bitLenAux_zero];rfl
 obtain ⟨f,c,d⟩:=Go.Lib.bitLenAux_bounds 64 (uN a) (rG a) b;have e:Go.Lib.bitLenAux 64 (uN a)<=64:=Go.Lib.bitLenAux_le 64 _ 64 (rG a);rw [JW d (.inr c) 64 e];omega
def zW (a:Int):Nat->Nat
 | 0=>0
 | k+1=>if fA a (63 - k)then 0 else zW a k+1
theorem QM {a:Int} {c m:Nat} (hc:c<64) (h:uN a=2 ^ c*(2*m+1)):∀ k,k<=64->64 - c<=k->zW a k=k - (64 - c)
 | 0,_,h2=>by omega
 | k+1,h1,h2=>by(have hb:fA a (63 - k)=(decide (63 - k>=c)&&(2*m+1).testBit (63 - k - c)):=by show (uN a).testBit _=_;rw [h,Nat.testBit_two_pow_mul]);rcases acf (63 - k) c with hk | hk;{rw [zW,hb,ab3 (by omega),adl,Y0 (by decide),QM hc h k (by omega) (by omega)];omega};rw [zW,hb,acj hk,show 63 - k - c=0 by omega,Nat.testBit_zero,show (2*m+1) % 2=1 by omega,aaI (by decide)];omega
theorem I4 {a:Int} (h:uN a=0):∀ k,zW a k=k
 | 0=>rfl
 | k+1=>by rw [zW,fA,h,Nat.zero_testBit,Y0 (by decide),I4 h k]
theorem I9 (a:Int):((zW a 64:Nat):Int)=lC 6 a:=by
 rw [show lC 6 a=((Go.Lib.ctz 64 (wU a).toNat:Nat):Int)from rfl];show _=((Go.Lib.ctz 64 (uN a):Nat):Int);by_cases b:uN a=0
 ·rw [I4 b,b];rfl
 obtain ⟨m,c,d⟩:=Go.Lib.ctzFrom_spec 64 (uN a) (by omega) (rG a);rw [QM d c 64 (aa1 _) (by omega),Go.Lib.ctz,Y0 b];omega
def vO (f:Nat->Bool):Nat->Nat
 | 0=>0
 | k+1=>vO f k+(if f k then 1 else 0)
theorem Kq (f:Nat->Bool):∀ k,vO f k<=k
 | 0=>aa1 _
 | k+1=>by have:=Kq f k;rw [vO];split <;> omega
theorem Ai {f g:Nat->Bool}:∀ {k},(∀ j,j<k->f j=g j)->vO f k=vO g k
 | 0,_=>rfl
 | k+1,h=>by rw [vO,vO,Ai (λj a=>h j (by omega)),h k (by omega)]
theorem Nl (f:Nat->Bool) (n:Nat):∀ k,vO f (n+k)=vO f n+vO (λj=>f (n+j)) k
 | 0=>rfl
 | k+1=>by rw [<- acA,vO,Nl f n k,vO,acA]
def gQ:List Nat->Nat
 | []=>0
 | b::l=>b+256*gQ l
def EP (c:Nat):Nat->Nat
 | 0=>0
 | k+1=>c+256*EP c k
theorem and_split {b c:Nat} (y z:Nat) (hb:b<256) (hc:c<256):(b+256*y) &&& (c+256*z)=(b &&& c)+256*(y &&& z):=by
 have a:b &&& c<2 ^ 8:=Nat.and_lt_two_pow b hc;refine Nat.eq_of_testBit_eq λj=>?_;rw [Nat.testBit_and,ac4 b,ac4 c,ac4 (b &&& c),show (256:Nat)=2 ^ 8 from rfl,ac8 _ hb,ac8 _ hc,ac8 _ a];split
 ·rw [Nat.testBit_and]
 rw [Nat.testBit_and]
def IY (b:Nat):Nat:=(b / 2 &&& 85)+(b &&& 85)
def Ls (b:Nat):Nat:=(b / 4 &&& 51)+(b &&& 51)
def ZM (b:Nat):Nat:=(b / 16+b) % 16
theorem abS:∀ b:_root_.Fin 128,∀ c:_root_.Fin 2,(b.val+128*c.val) &&& 85=b.val &&& 85:=by decide+kernel
theorem abR:∀ b:_root_.Fin 64,∀ c:_root_.Fin 4,(b.val+64*c.val) &&& 51=b.val &&& 51:=by decide+kernel
theorem abp:∀ b:_root_.Fin 256,ZM (Ls (IY b.val))=vO b.val.testBit 8:=by decide+kernel
theorem abq:∀ b:_root_.Fin 256,IY b.val<256:=by decide+kernel
theorem ZN:∀ b:_root_.Fin 256,Ls b.val<256/\Ls (IY b.val) % 16<=4/\Ls (IY b.val) / 16<=4:=by decide+kernel
theorem ZH:∀ l:List Nat,(∀ b∈l,b<256)->(gQ l / 2 &&& EP 85 l.length)+(gQ l &&& EP 85 l.length)=gQ (l.map IY)
 | [],_=>rfl
 | b::l,h=>by have a:=ZH l (λc hc=>h c (acv _ hc));have hb:b<256:=h b acS;have e:=abS ⟨b / 2,by omega⟩ ⟨gQ l % 2,by omega⟩;simp only at e;rw [adt,gQ,gQ,acO,EP,show (b+256*gQ l) / 2=(b / 2+128*(gQ l % 2))+256*(gQ l / 2) by omega,and_split _ _ (by omega) (by decide),and_split _ _ hb (by decide),e,<- a,IY];omega
theorem ZG:∀ l:List Nat,(∀ b∈l,b<256)->(gQ l / 4 &&& EP 51 l.length)+(gQ l &&& EP 51 l.length)=gQ (l.map Ls)
 | [],_=>rfl
 | b::l,h=>by have a:=ZG l (λc hc=>h c (acv _ hc));have hb:b<256:=h b acS;have e:=abR ⟨b / 4,by omega⟩ ⟨gQ l % 4,by omega⟩;simp only at e;rw [adt,gQ,gQ,acO,EP,show (b+256*gQ l) / 4=(b / 4+64*(gQ l % 4))+256*(gQ l / 4) by omega,and_split _ _ (by omega) (by decide),and_split _ _ hb (by decide),e,<- a,Ls];omega
theorem ZF:∀ l:List Nat,(∀ b∈l,b % 16<=4/\b / 16<=4)->(gQ l / 16+gQ l) &&& EP 15 l.length=gQ (l.map ZM)/\gQ l % 16<=4
 | [],_=>⟨rfl,by decide⟩
 | b::l,h=>by obtain ⟨a,f⟩:=ZF l (λc hc=>h c (acv _ hc));obtain ⟨d,e⟩:=h b acS;refine ⟨?_,by rw [gQ];omega⟩;rw [adt,gQ,gQ,acO,EP,show (b+256*gQ l) / 16+(b+256*gQ l)=(b / 16+16*(gQ l % 16)+b)+256*(gQ l / 16+gQ l) by omega,and_split _ _ (by omega) (by decide),a,ZM,show 15=2 ^ 4 - 1 from rfl,adA];omega
theorem Ky:∀ l:List Nat,(∀ b∈l,b<256)->gQ l<256 ^ l.length
 | [],_=>by decide
 | b::l,h=>by have:=Ky l (λc hc=>h c (acv _ hc));have hb:b<256:=h b acS;rw [gQ,acO,Nat.pow_succ];omega
theorem Rk:∀ l:List Nat,(∀ b∈l,b<256)->vO (gQ l).testBit (8*l.length)=(l.map λb=>vO b.testBit 8).sum
 | [],_=>rfl
 | b::l,h=>by have hb:b<2 ^ 8:=h b acS;rw [adt,List.sum_cons,<- Rk l (λc hc=>h c (acv _ hc)),acO,show 8*(l.length+1)=8+8*l.length by omega,Nl,gQ,ac4 b];congr 1;{exact Ai λj a=>by rw [show (256:Nat)=2 ^ 8 from rfl,ac8 _ hb,aaI a]};exact Ai λj a=>by rw [show (256:Nat)=2 ^ 8 from rfl,ac8 _ hb,Y0 (by omega),Nat.add_sub_cancel_left]
theorem OE:∀ (k x:Nat),x<256 ^ k -> ∃ l:List Nat,l.length=k/\(∀ b∈l,b<256)/\gQ l=x
 | 0,x,h=>⟨[],rfl,(λ_ h=>nomatch h),by rw [Nat.pow_zero]at h;simp only [gQ];omega⟩
 | k+1,x,h=>by rw [Nat.pow_succ]at h;obtain ⟨l,a,c,d⟩:=OE k (x / 256) (by omega);refine ⟨x % 256::l,by simp [a],λb hb=>?_,by rw [gQ,d];omega⟩;rcases List.mem_cons.1 hb with rfl | hb;{omega};exact c b hb
theorem CP (x:Nat) {d:Int} {n:Nat} (hd:d=(n:Nat)):(x:Int).fdiv d=((x / n:Nat):Int):=by
 subst hd;rw [Int.fdiv_eq_ediv_of_nonneg _ (by omega)];simp
def zL:List Nat->List Nat->List Nat
 | a::l,b::m=>(a+b)::zL l m
 | [],m=>m
 | l,[]=>l
theorem ND:∀ l m,gQ (zL l m)=gQ l+gQ m
 | a::l,b::m=>by rw [zL,gQ,gQ,gQ,ND l m];omega
 | [],m=>by rw [zL,gQ];omega
 | a::l,[]=>by rw [zL];rfl;exact λh=>nomatch h
theorem SH {A B:Nat}:∀ {l m:List Nat},(∀ b∈l,b<=A)->(∀ b∈m,b<=B) -> ∀ b∈zL l m,b<=A+B
 | a::l,b::m,h1,h2,x,hx=>by rw [zL]at hx;rcases List.mem_cons.1 hx with rfl | hx;{have:=h1 a acS;have:=h2 b acS;omega};exact SH (λc hc=>h1 c (acv _ hc)) (λc hc=>h2 c (acv _ hc)) x hx
 | [],m,h1,h2,x,hx=>by rw [zL]at hx;have:=h2 x hx;omega
 | a::l,[],h1,h2,x,hx=>by rw [zL]at hx;have:=h1 x hx;omega;exact λh=>nomatch h
theorem Oo:∀ (k:Nat) (l:List Nat),(∀ b∈l,b<256)->gQ l / 256 ^ k=gQ (l.drop k)
 | 0,l,_=>by simp
 | k+1,[],_=>by simp [gQ]
 | k+1,b::l,h=>by have hb:=h b acS;rw [List.drop_succ_cons,<- Oo k l (λc hc=>h c (acv _ hc)),Nat.pow_succ,adn,<- Nat.div_div_eq_div_mul,gQ];congr 1;omega
theorem TV {n k:Nat} (h:n+n / k<2 ^ 64):qp (k:Int) (n:Int)=((n+n / k:Nat):Int):=by
 rw [qp,CP n (n:=k) rfl,<- Int.natCast_add];exact yB h
theorem WU {A:Nat}:∀ l:List Nat,(∀ b∈l,b<=A)->gQ l*255+A<=A*256 ^ l.length
 | [],_=>by simp [gQ]
 | b::l,h=>by have a:=WU l (λc hc=>h c (acv _ hc));have hb:=h b acS;rw [gQ,acO,Nat.pow_succ,<- Nat.mul_assoc];generalize A*256 ^ l.length=P at a ⊢;omega
theorem WH {l:List Nat} {A K:Nat} (hl:l.length=8) (hA:∀ b∈l,b<=A) (h:A+A<256) (k:Nat) (g:K=256 ^ k):qp (K:Int) (gQ l:Int)=gQ (zL l (l.drop k))/\(∀ b∈zL l (l.drop k),b<=A+A)/\gQ (zL l (l.drop k))<2 ^ 64/\(zL l (l.drop k)).length=8:=by
 subst g;have hb:=SH hA (λb hb=>hA b (List.drop_subset k l hb));have e:gQ l+gQ l / 256 ^ k=gQ (zL l (l.drop k)):=by rw [Oo k l λb hb=>ado (hA b hb) (by omega),ND]
 have hlen:∀ l m:List Nat,m.length<=l.length->(zL l m).length=l.length:=λl=>by
  induction l with
  | nil=>intro m h;cases m with
   | nil=>rfl
   | cons=>cases h
  | cons a l i=>intro m h;cases m with
   | nil=>rfl
   | cons b m=>exact ab5 (· + 1) (i m (Nat.le_of_succ_le_succ h))
 have c:=Ky _ (λb f=>ado (hb b f) h);have d:=hlen l (l.drop k) (by rw [adK];omega);rw [hl]at d;rw [d]at c;exact ⟨by rw [TV (by rw [e];exact c),e],hb,c,d⟩
theorem WE {x:Nat} (h:x<2 ^ 64):Gu x=vO x.testBit 64:=by
 obtain ⟨l,hl,hb,rfl⟩:=OE 8 x h;have hp:=Rk l hb;rw [hl]at hp;rw [hp];have e:∀ b∈l.map IY,b<256:=by rintro b a;obtain ⟨c,hc,rfl⟩:=List.mem_map.1 a;exact abq ⟨c,hb c hc⟩
 have f:∀ b∈(l.map IY).map Ls,b<256/\b % 16<=4/\b / 16<=4:=by rintro b a;obtain ⟨c,hc,rfl⟩:=List.mem_map.1 a;obtain ⟨d,hd,rfl⟩:=List.mem_map.1 hc;exact ⟨(ZN ⟨_,e _ hc⟩).1,(ZN ⟨d,hb d hd⟩).2⟩
 have j:=ZH l hb;have k:=ZG _ e;have s:=(ZF _ (λb g=>(f b g).2)).1;have n1:=Ky _ e;have n2:=Ky _ (λb g=>(f b g).1);simp only [acK,hl]at j k s n1 n2;have o:EP 85 8=6148914691236517205:=rfl;have p:EP 51 8=3689348814741910323:=rfl;have r:EP 15 8=1085102592571150095:=rfl;rw [o]at j;rw [p]at k;rw [r]at s;have m:BJ (gQ l)=((gQ (l.map IY):Nat):Int):=by rw [BJ,CP _ (d:=2) (n:=2) rfl,show (6148914691236517205:Int)=((6148914691236517205:Nat):Int)from rfl,OH (by omega) (by decide),OH h (by decide),<- j,<- Int.natCast_add];exact yB (by rw [j];omega)
 have e2:Ef (gQ (l.map IY))=((gQ ((l.map IY).map Ls):Nat):Int):=by rw [Ef,CP _ (d:=4) (n:=4) rfl,show (3689348814741910323:Int)=((3689348814741910323:Nat):Int)from rfl,OH (by omega) (by decide),OH (by omega) (by decide),<- k,<- Int.natCast_add];exact yB (by rw [k];omega)
 have i:gQ ((l.map IY).map Ls) / 16+gQ ((l.map IY).map Ls)<2 ^ 64:=by(have hlen2:((l.map IY).map Ls).length=8:=by simp [hl]);have t:=WU (A:=79) _ (λb g=>show b<=79 by have:=(f b g).2;omega);rw [hlen2,show 256 ^ 8=18446744073709551616 from rfl]at t;generalize gQ ((l.map IY).map Ls)=X at t ⊢;omega
 have e3:Gv (gQ ((l.map IY).map Ls))=((gQ (((l.map IY).map Ls).map ZM):Nat):Int):=by rw [Gv,CP _ (d:=16) (n:=16) rfl,<- Int.natCast_add,wU,yB i,show (1085102592571150095:Int)=((1085102592571150095:Nat):Int)from rfl,OH i (by decide),s]
 rw [Gu,m,e2,e3];have u:(l.map λb=>vO b.testBit 8)=((l.map IY).map Ls).map ZM:=by rw [List.map_map,List.map_map];exact List.map_congr_left λb a=>(abp ⟨b,hb b a⟩).symm
 rw [u];have hd:∀ b∈((l.map IY).map Ls).map ZM,b<=8:=by rw [<- u];rintro b a;obtain ⟨c,hc,rfl⟩:=List.mem_map.1 a;exact Kq _ _
 have hlen:(((l.map IY).map Ls).map ZM).length=8:=by simp [hl]
 generalize ((l.map IY).map Ls).map ZM=q at *;match q,hlen with| [c0,c1,c2,c3,c4,c5,c6,c7],_=>simp only [acY,List.not_mem_nil,or_false,forall_eq_or_imp,forall_eq]at hd;obtain ⟨y,d1,d2,d3,d4,d5,d6,d7⟩:=hd;(have hq:∀ b∈[c0,c1,c2,c3,c4,c5,c6,c7],b<=8:=by simp only [acY,List.not_mem_nil,or_false,forall_eq_or_imp,forall_eq];exact ⟨y,d1,d2,d3,d4,d5,d6,d7⟩);obtain ⟨o,v,_,g1⟩:=WH (l:=[c0,c1,c2,c3,c4,c5,c6,c7]) (K:=256) rfl hq (by decide) 1 rfl;obtain ⟨p,w,_,g2⟩:=WH (K:=65536) g1 v (by decide) 2 rfl;obtain ⟨r,b3,k3,_⟩:=WH (K:=4294967296) g2 w (by decide) 4 rfl;have m:qp 4294967296 (qp 65536 (qp 256 (gQ [c0,c1,c2,c3,c4,c5,c6,c7])))=_:=((ab5 (λz=>qp 4294967296 (qp 65536 z)) o).trans (ab5 (λz=>qp 4294967296 z) p)).trans r;rw [m];rw [Yc,FN k3,show uN 127=2 ^ 7 - 1 from rfl,adA,wI,IntKind.wrap_i64];simp only [List.sum_cons,List.sum_nil];simp only [zL,List.drop];rw [gQ];generalize gQ _=Z;omega
theorem WG (a:Int):((vO (fA a) 64:Nat):Int)=lC 4 a:=by
 rw [show lC 4 a=Gu (wU a)from rfl,AX,WE (rG a)]
def sK (a b:Int) (k:Nat) (s:Int×Int):Int×Int :=
 if fA b k=false then (wI (wI (s.1*2)+wI (s.2.fdiv 9223372036854775808)),wU (s.2*2))else
 if k=63 then
  (if wU (s.2*2)<wU a then (wI (wI (wI (wI (s.1*2)+wI (s.2.fdiv 9223372036854775808)) - a.fdiv 9223372036854775808) - 1),wU (wU (s.2*2) - wU a))else (wI (wI (wI (s.1*2)+wI (s.2.fdiv 9223372036854775808)) - a.fdiv 9223372036854775808),wU (wU (s.2*2) - wU a)))
 else
  (if wU (wU (s.2*2)+wU a)<wU (s.2*2)then (wI (wI (wI (wI (s.1*2)+wI (s.2.fdiv 9223372036854775808))+a.fdiv 9223372036854775808)+1),wU (wU (s.2*2)+wU a))else (wI (wI (wI (s.1*2)+wI (s.2.fdiv 9223372036854775808))+a.fdiv 9223372036854775808),wU (wU (s.2*2)+wU a)))
def Yr (a b:Int):Nat->Int×Int
 | 0=>(0,0)
 | m+1=>sK a b (63 - m) (Yr a b m)
def EL (b:Int):Nat->Int
 | 0=>0
 | m+1=>2*EL b m+(if fA b (63 - m)=true then (if m=0 then -1 else 1)else 0)
theorem XF (x:Int):x.fdiv 9223372036854775808=x / 9223372036854775808:=Int.fdiv_eq_ediv_of_nonneg _ (by decide)
theorem Vg {a b acc:Int} {k:Nat} {s:Int×Int} (e:nZ a) (c:s.1=wI (acc / 18446744073709551616)) (d:s.2=acc % 18446744073709551616) :
 (sK a b k s).1=wI ((2*acc+(if fA b k=true then (if k=63 then -a else a)else 0)) / 18446744073709551616)/\(sK a b k s).2=(2*acc+(if fA b k=true then (if k=63 then -a else a)else 0)) % 18446744073709551616:=by
 obtain ⟨hi,lo⟩:=s;simp only at c d;unfold sK wI wU;simp only [XF,IntKind.wrap_i64,IntKind.wrap_u64]at *
 obtain ⟨g1,f⟩:=e;cases hb:fA b k with
 | false=>simp only [acZ,acR,acG];subst c d;constructor <;> omega
 | true =>
  simp only [Bool.true_eq_false,acG,acZ];by_cases hk:k=63
  ·simp only [hk,acZ];subst c d;split <;> constructor <;> simp only <;> omega
  ·simp only [hk,acG];subst c d;split <;> constructor <;> simp only <;> omega
theorem O7 {a b:Int} (c:nZ a):∀ m,m<=64->(Yr a b m).1=wI (a*EL b m / 18446744073709551616)/\(Yr a b m).2=a*EL b m % 18446744073709551616
 | 0,_=>by rw [EL,Int.mul_zero];exact ⟨rfl,rfl⟩
 | m+1,h=>by obtain ⟨f,i2⟩:=O7 (b:=b) c m (by omega);have d:=Vg (b:=b) (k:=63 - m) c f i2;(have e:2*(a*EL b m)+(if fA b (63 - m)=true then (if 63 - m=63 then -a else a)else 0)=a*EL b (m+1):=by rw [EL,Int.mul_add,<- Int.mul_assoc a 2,Int.mul_comm a 2,Int.mul_assoc 2];congr 1;cases fA b (63 - m)with| false=>simp| true=>by_cases hm:m=0;{simp [hm]};simp [hm,show ¬ 63 - m=63 by omega]);rw [e]at d;exact d
theorem LP {b:Int}:∀ m,m<64->EL b (m+1)=((uN b / 2 ^ (63 - m):Nat):Int) - (if fA b 63=true then 2 ^ (m+1)else 0)
 | 0,_=>by have f:=rG b;rw [EL,EL];simp only [acZ,Nat.sub_zero];rw [fA,acJ];simp only [abK];split <;> simp <;> omega
 | m+1,h=>by have e:=LP (b:=b) m (by omega);rw [EL,e,Y0 (by omega:¬ m+1=0)];(have a:uN b / 2 ^ (63 - m)=uN b / 2 ^ (63 - (m+1)) / 2:=by rw [show 63 - m=(63 - (m+1))+1 by omega,Nat.pow_succ,<- Nat.div_div_eq_div_mul]);have c:fA b (63 - (m+1))=decide (uN b / 2 ^ (63 - (m+1)) % 2=1):=acJ;rw [a,c];(have d:(2:Int) ^ (m+1+1)=2*2 ^ (m+1):=by rw [Int.pow_succ];omega);rw [d];generalize uN b / 2 ^ (63 - (m+1))=q;generalize (2:Int) ^ (m+1)=w;simp only [abK];split <;> split <;> omega
theorem LQ {b:Int} (hb:nZ b):EL b 64=b:=by
 have h:=LP (b:=b) 63 (by omega);have d:=ni b;rw [h,fA,acJ];simp only [abK];obtain ⟨a,c⟩:=hb;split <;> simp <;> omega
theorem LH {a b:Int} (i:nZ a) (hb:nZ b):Yr a b 64=(wI (og a b),vV a b):=by
 obtain ⟨g,h⟩:=O7 (b:=b) i 64 (aa1 _);rw [LQ hb]at g h;have l:=ni a;have m:=ni b;obtain ⟨P,f⟩:∃ P:Nat,P=uN a*uN b:=⟨_,rfl⟩;have k:Rz a b=((P / 18446744073709551616:Nat):Int):=by rw [f];rfl
 have hl:vV a b=((P % 18446744073709551616:Nat):Int):=by rw [f];rfl
 have e:a*b=(P:Int) - (if a<0 then 18446744073709551616*(uN b:Int)else 0) - (if b<0 then 18446744073709551616*(uN a:Int)else 0)+(if a<0/\b<0 then 18446744073709551616*18446744073709551616 else 0):=by rw [f,Int.natCast_mul];obtain ⟨a1,n⟩:=i;obtain ⟨o,p⟩:=hb;(have j:(uN a:Int)=a+(if a<0 then 18446744073709551616 else 0):=by split <;> omega);(have eb:(uN b:Int)=b+(if b<0 then 18446744073709551616 else 0):=by split <;> omega);rw [j,eb];by_cases d:a<0;{by_cases c:b<0;{simp only [d,c,acZ,and_self,Int.add_mul,Int.mul_add];omega};simp only [d,c,acZ,acG,and_false,Int.add_mul,Int.mul_add];omega};by_cases c:b<0;{simp only [d,c,acZ,acG,false_and,Int.add_mul,Int.mul_add];omega};simp only [d,c,acG,false_and,Int.add_mul,Int.mul_add];omega
 have q:=rG a;have r:=rG b;refine Prod.ext ?_ ?_
 ·rw [g];show wI _=wI _;rw [og,GZ,k,e];unfold wI wU;simp only [IntKind.wrap_i64,IntKind.wrap_u64];by_cases d:a<0 <;> by_cases c:b<0 <;> simp only [d,c,acZ,acG,and_self,and_false,false_and] <;> omega
 rw [h];show _=vV a b;rw [hl,e];by_cases d:a<0 <;> by_cases c:b<0 <;> simp only [d,c,acZ,acG,and_self,and_false,false_and] <;> omega
theorem oO (a k:Int):AC Tryz.prog T aJ 245 [.int a,.int k] [] (.int (oH a k)) []:=by
 refine aX Tryz.func245 ?_;refine sg rfl (sq (rgs [] rfl ?_ ?_))
 ·have:=(rF k).1;exact au
 exact WP.ret (bC hT (by rfl) rfl)
theorem uq (a k v:Int):AC Tryz.prog T aJ 246 [.int a,.int k,.int v] [] (.int (Gj a k v)) []:=by
 refine aX Tryz.func246 ?_;refine sg rfl (sq (rgs [] rfl ?_ ?_))
 ·have:=(rF k).1;exact au
 exact WP.ret (bC hT (by rfl) rfl)
theorem uo (b:Bool):AC Tryz.prog T aJ 247 [.bool b] [] (.int (jL b)) []:=by
 refine aX Tryz.func247 ?_;refine sg rfl (sq (sq (rg [] rfl ?_)));refine cd rfl (λa=>?_) (λa=>?_)
 ·refine sg rfl (rX ?_);refine bC hT (by rfl) ?_;simp_all [jL]
 refine sk (sq (rg [] rfl ?_));refine rX ?_;refine bC hT (by rfl) ?_;simp_all [jL]
theorem TM (op:Int):AC Tryz.prog T aJ 206 [.int op] [] (.int (kJ op)) []:=by
 refine aX Tryz.func206 ?_;refine sg rfl (sq (sq (rg [] rfl ?_)));refine cd rfl (λa=>?_) (λa=>?_)
 ·simp only [fM]at a;simp at a;exact sg rfl (WP.ret (bC hT (by rfl) (by rw [kJ,Y0 (by omega),Y0 (by omega)])))
 simp only [fM]at a;simp at a;refine sk (sq (sq (rg [] rfl ?_)));refine cd rfl (λb=>?_) (λb=>?_);{simp at b;exact sg rfl (WP.ret (bC hT (by rfl) (by rw [kJ,aaI (by omega)])))};simp at b;refine sk (sq (rg [] rfl ?_));exact WP.ret (bC hT (by rfl) (by rw [kJ,Y0 (by omega),aaI (by omega)]))
theorem vH (a:Int) (n:Nat) (hn:1<=n/\n<=63) (sign:Bool):AC Tryz.prog T aJ 248 [.int a,.int n,.bool sign] [] (.int (wI (eG (kY a n sign) 64))) []:=by
 refine aX Tryz.func248 ?_;refine sg rfl (sg rfl ?_);refine sq (sq (rg [] rfl ?_));refine bk (WP.loop (α:=Nat) (λk=>aN [(0,.int a),(1,.int n),(2,.bool sign),(7,.int (wI (eG (kY a n sign) k))),(8,.int k)] []) (λk=>k<=64) (λk=>64 - k) ?_ ?_)
 ·refine ⟨0,?_,?_⟩;{exact abr _};refine eX cX trivial
 rintro k hk;refine sq (sq (rg [] rfl ?_));refine cd rfl (λf=>?_) (λf=>?_);{(have b:k<64:=by simp at f;omega);have hb:=AY (kY a n sign) b;refine sk (sq (bk (sq (rg [] rfl ?_))));refine sq (sq (rg [] rfl ?_));refine cd rfl (λg=>?_) (λg=>?_);{(have c:k<n:=by simp at g;omega);have e:kY a n sign k=fA a k:=aaI c;refine rgs [CG.pure (.int (oH a k))] rfl ?_ ?_;{have d:=oO a k;exact au};refine rgs [CG.pure (.int (Gj (wI (eG (kY a n sign) k)) k (oH a k)))] rfl ?_ ?_;{have d:=uq (wI (eG (kY a n sign) k)) k (oH a k);exact au};refine rg [] rfl ⟨k+1,?_,?_,?_⟩;{exact b};{refine eX ⟨cq,cq,cq,⟨rfl,_,rfl,ah (by rw [<- hb,e,lu a b])⟩,cq,tt⟩ trivial};(try simp only []);first | omega | grind};(have c:¬ k<n:=by simp at g;omega);refine sg rfl (cd rfl (λh=>?_) (λh=>?_));{(have i:IntKind.i64.wrap ((n:Int) - 1)=((n - 1:Nat):Int):=by rw [bK (by omega) (by omega)];omega);(have e:kY a n sign k=fA a (n - 1):=by rw [kY,Y0 c,h,acL]);refine rgs [CG.pure (.int (oH a (n - 1:Nat)))] rfl ?_ ?_;{have d:=oO a (n - 1:Nat);rw [<- i]at d ⊢;exact au};refine rgs [CG.pure (.int (Gj (wI (eG (kY a n sign) k)) k (oH a (n - 1:Nat))))] rfl ?_ ?_;{have d:=uq (wI (eG (kY a n sign) k)) k (oH a (n - 1:Nat));exact au};refine rg [] rfl ⟨k+1,?_,?_,?_⟩;{exact b};{refine eX ⟨cq,cq,cq,⟨rfl,_,rfl,ah (by rw [<- hb,e,lu a (show n - 1<64 by omega)])⟩,cq,tt⟩ trivial};(try simp only []);first | omega | grind};(have e:kY a n sign k=false:=by rw [kY,Y0 c,h,adl]);refine sk (rgs [CG.pure (.int (Gj (wI (eG (kY a n sign) k)) k 0))] rfl ?_ ?_);{have d:=uq (wI (eG (kY a n sign) k)) k 0;exact au};refine rg [] rfl ⟨k+1,?_,?_,?_⟩;{exact b};{refine eX ⟨cq,cq,cq,⟨rfl,_,rfl,ah (by rw [<- hb,e];rfl)⟩,cq,tt⟩ trivial};(try simp only []);first | omega | grind};(have b:k=64:=by simp at f;omega);refine xt (sq (rg [] rfl ?_));exact WP.ret (bC hT (by rfl) (by rw [b]))
theorem Wu (op a b:Int) (h:21<=op/\op<=24):AC Tryz.prog T aJ 250 [.int op,.int a,.int b] [] (.int (lZ op a b)) []:=by
 refine aX Tryz.func250 ?_;refine sg rfl (sg rfl ?_);refine sq (sq (rg [] rfl ?_));refine bk (WP.loop (α:=Nat) (λk=>aN [(0,.int op),(1,.int a),(2,.int b),(7,.int (wI (eG (λk=>BQ op (fA a k) (fA b k)) k))),(8,.int k)] []) (λk=>k<=64) (λk=>64 - k) ?_ ?_)
 ·refine ⟨0,?_,?_⟩;{exact abr _};refine eX cX trivial
 rintro k hk;refine sq (sq (rg [] rfl ?_));refine cd rfl (λi=>?_) (λi=>?_);{(have c:k<64:=by simp at i;omega);have hb:=AY (λk=>BQ op (fA a k) (fA b k)) c;refine sk (sq (bk (sq (rgs [CG.pure (.int (oH a k)),CG.pure (.int (oH b k))] rfl ?_ ?_))));{have m:=oO a k;have n:=oO b k;exact au};refine sq ?_;obtain ⟨x,hx⟩:∃ x,fA a k=x:=⟨_,rfl⟩;obtain ⟨y,o⟩:∃ y,fA b k=y:=⟨_,rfl⟩;refine wT [(0,.int op),(1,.int a),(2,.int b),(7,.int (wI (eG (λk=>BQ op (fA a k) (fA b k)) k))),(8,.int k),(9,.int (jL x)),(10,.int (jL y))] [] ⟨cq,cq,cq,cq,cq,⟨rfl,_,rfl,ah (by rw [lu a c,hx])⟩,⟨rfl,_,rfl,ah (by rw [lu b c,o])⟩,tt⟩ trivial (rg [] rfl ?_);refine WP.seqJ (α:=Unit) (λ_=>aN [(0,.int op),(1,.int a),(2,.int b),(7,.int (wI (eG (λk=>BQ op (fA a k) (fA b k)) k))),(8,.int k),(11,.bool (BQ op x y))] []) (λ_=>True) ?_ ?_;{refine sg rfl (bk (sq (rg [] rfl ?_)));refine cd rfl (λj=>?_) (λj=>?_);{(have e:op=21:=by simpa using j);refine rg [] rfl ⟨(),?_,?_⟩;{trivial};refine eX ⟨cq,cq,cq,cq,cq,⟨rfl,_,rfl,ah (by rw [e];cases x <;> cases y <;> rfl)⟩,tt⟩ trivial};(have p:op≠21:=by simpa using j);refine sg rfl (cd rfl (λd=>?_) (λd=>?_));{(have e:op=22:=by simpa using d);refine rg [] rfl ⟨(),?_,?_⟩;{trivial};refine eX ⟨cq,cq,cq,cq,cq,⟨rfl,_,rfl,ah (by rw [e];cases x <;> cases y <;> rfl)⟩,tt⟩ trivial};(have q:op≠22:=by simpa using d);refine sg rfl (cd rfl (λf=>?_) (λf=>?_));{(have e:op=23:=by simpa using f);refine rg [] rfl ⟨(),?_,?_⟩;{trivial};refine eX ⟨cq,cq,cq,cq,cq,⟨rfl,_,rfl,ah (by rw [e];cases x <;> cases y <;> rfl)⟩,tt⟩ trivial};(have r:op≠23:=by simpa using f);refine sg rfl (cd rfl (λg=>?_) (λg=>?_));{(have e:op=24:=by simpa using g);refine rg [] rfl ⟨(),?_,?_⟩;{trivial};refine eX ⟨cq,cq,cq,cq,cq,⟨rfl,_,rfl,ah (by rw [e];cases x <;> cases y <;> rfl)⟩,tt⟩ trivial};(have s:op≠24:=by simpa using g);omega};rintro _ l;refine rgs [CG.pure (.int (jL (BQ op x y))),CG.pure (.int (Gj (wI (eG (λk=>BQ op (fA a k) (fA b k)) k)) k (jL (BQ op x y))))] rfl ?_ ?_;{have m:=uo (BQ op x y);have n:=uq (wI (eG (λk=>BQ op (fA a k) (fA b k)) k)) k (jL (BQ op x y));exact au};refine rg [] rfl ⟨k+1,?_,?_,?_⟩;{exact c};{refine eX ⟨cq,cq,cq,⟨rfl,_,rfl,ah (by rw [<- hb,<- hx,<- o])⟩,cq,tt⟩ trivial};(try simp only []);first | omega | grind};(have c:k=64:=by simp at i;omega);refine xt (sq (rg [] rfl ?_));exact WP.ret (bC hT (by rfl) (by rw [c,Y5 h]))
theorem YJ (b:Int):AC Tryz.prog T aJ 252 [.int b] [] (.int (XE b)) []:=by
 refine aX Tryz.func252 ?_;refine sg rfl (sq (sq (rg [] rfl ?_)));refine cd rfl (λa=>?_) (λa=>?_)
 ·refine sg rfl (rX ?_);refine bC hT (by rfl) ?_;simp at a;unfold XE;split <;> omega
 refine sk (sq (rg [] rfl ?_));refine rX ?_;refine bC hT (by rfl) ?_;simp at a;unfold XE;split <;> omega
theorem Dp (a b:Int) (z:Bool) (hb : -64<=b/\b<=64):AC Tryz.prog T aJ 251 [.int a,.int b,.int (jL z)] [] (.int (wI (eG (uQ a b z) 64))) []:=by
 refine aX Tryz.func251 ?_;refine sg rfl (sg rfl ?_);refine sq (sq (rg [] rfl ?_));refine bk (WP.loop (α:=Nat) (λk=>aN [(0,.int a),(1,.int b),(2,.int (jL z)),(7,.int (wI (eG (uQ a b z) k))),(8,.int k)] []) (λk=>k<=64) (λk=>64 - k) ?_ ?_)
 ·refine ⟨0,?_,?_⟩;{exact abr _};refine eX cX trivial
 rintro k hk;refine sq (sq (rg [] rfl ?_));refine cd rfl (λg=>?_) (λg=>?_);{(have c:k<64:=by simp at g;omega);have hw:=AY (uQ a b z) c;have f:IntKind.i64.wrap ((k:Int) - b)=(k:Int) - b:=bK (by omega) (by omega);refine sk (sq (bk (sq (rg [] rfl ?_))));refine sq (sq (rg [] rfl ?_));refine cd rfl (λe=>?_) (λe=>?_);{(have d:0<=(k:Int) - b/\(k:Int) - b<64:=by simp only [band,f]at e;simpa using e);(have j:(k:Int) - b=(((k:Int) - b).toNat:Int):=by omega);have i:uQ a b z k=fA a ((k:Int) - b).toNat:=aaI d;refine rgs [CG.pure (.int (oH a ((k:Int) - b).toNat))] rfl ?_ ?_;{have h:=oO a ((k:Int) - b).toNat;rw [<- j,<- f]at h;exact au};refine rgs [CG.pure (.int (Gj (wI (eG (uQ a b z) k)) k (oH a ((k:Int) - b).toNat)))] rfl ?_ ?_;{have h:=uq (wI (eG (uQ a b z) k)) k (oH a ((k:Int) - b).toNat);exact au};refine rg [] rfl ⟨k+1,?_,?_,?_⟩;{exact c};{refine eX ⟨cq,cq,cq,⟨rfl,_,rfl,ah (by rw [<- hw,i,lu a (by omega)])⟩,cq,tt⟩ trivial};(try simp only []);first | omega | grind};(have d:¬ (0<=(k:Int) - b/\(k:Int) - b<64):=by simp only [band,f]at e;simpa using e);have i:uQ a b z k=z:=Y0 d;refine sk (rgs [CG.pure (.int (Gj (wI (eG (uQ a b z) k)) k (jL z)))] rfl ?_ ?_);{have h:=uq (wI (eG (uQ a b z) k)) k (jL z);exact au};refine rg [] rfl ⟨k+1,?_,?_,?_⟩;{exact c};{refine eX ⟨cq,cq,cq,⟨rfl,_,rfl,ah (by rw [<- hw,i])⟩,cq,tt⟩ trivial};(try simp only []);first | omega | grind};(have c:k=64:=by simp at g;omega);refine xt (sq (rg [] rfl ?_));exact WP.ret (bC hT (by rfl) (by rw [c]))
theorem MH (a b:Int) (r:nZ a) (hb:nZ b):AC Tryz.prog T aJ 249 [.int a,.int b] [] (.tup [.int (wI (og a b)),.v (.int .u64 (vV a b))]) []:=by
 refine aX Tryz.func249 ?_;refine sg rfl (sg rfl ?_);refine sg rfl (sq (sq (rg [] rfl ?_)));refine bk (WP.loop (α:=Nat) (λm=>aN [(0,.int a),(1,.int b),(6,.int (Yr a b m).1),(7,.v (.int .u64 (Yr a b m).2)),(8,.int (63 - (m:Int)))] []) (λm=>m<=64) (λm=>64 - m) ?_ ?_)
 ·refine ⟨0,?_,?_⟩;{exact abr _};refine eX cX trivial
 rintro m hm;refine sq (sq (rg [] rfl ?_));refine cd rfl (λk=>?_) (λk=>?_);{(have c:m<64:=by simp at k;omega);(have q:63 - (m:Int)=((63 - m:Nat):Int):=by omega);(have j:IntKind.i64.wrap (63 - (m:Int) - 1)=63 - ((m+1:Nat):Int):=by rw [bK (by omega) (by omega)];omega);have e:Yr a b (m+1)=sK a b (63 - m) (Yr a b m):=rfl;obtain ⟨s,p⟩:∃ s,Yr a b m=s:=⟨_,rfl⟩;rw [p]at e ⊢;refine sk (sq (bk (sq (rg [] rfl ?_))));refine sg rfl (sq (sq (rgs [CG.pure (.int (oH b (63 - m:Nat)))] rfl ?_ ?_)));{have t:=oO b (63 - m:Nat);rw [<- q]at t;exact au};refine cd rfl (λi=>?_) (λi=>?_);{(have f:fA b (63 - m)=false:=by rw [lu b (show 63 - m<64 by omega)]at i;cases o:fA b (63 - m)with| false=>rfl| true=>(rw [o]at i;cases i));refine xt (rg [] rfl ?_);refine ⟨m+1,?_,?_,?_⟩;{exact c};{refine eX ⟨cq,cq,⟨rfl,_,rfl,ah (by rw [e,sK,aaI f] <;> rfl)⟩,⟨rfl,_,rfl,ah (by rw [e,sK,aaI f] <;> rfl)⟩,⟨rfl,_,rfl,ah (by rw [j])⟩,tt⟩ trivial};(try simp only []);first | omega | grind};(have f:¬ fA b (63 - m)=false:=by rw [lu b (show 63 - m<64 by omega)]at i;intro o;rw [o]at i;cases i);refine sk (sq (sq ?_));rw [lu b (show 63 - m<64 by omega)];refine rg [] rfl (cd rfl (λn=>?_) (λn=>?_));{(have d:63 - m=63:=by simp at n;omega);refine sg rfl (sg rfl ?_);refine sg rfl (sq (sq (rg [] rfl ?_)));refine cd rfl (λg=>?_) (λg=>?_);{(have hl:wU (s.2*2)<wU a:=by simpa using g);refine rg [] rfl (xt (rg [] rfl ?_));refine ⟨m+1,?_,?_,?_⟩;{exact c};{refine eX ⟨cq,cq,⟨rfl,_,rfl,ah (by rw [e,sK,Y0 f,aaI d,aaI hl] <;> rfl)⟩,⟨rfl,_,rfl,ah (by rw [e,sK,Y0 f,aaI d,aaI hl] <;> rfl)⟩,⟨rfl,_,rfl,ah (by rw [j])⟩,tt⟩ trivial};(try simp only []);first | omega | grind};(have hl:¬ wU (s.2*2)<wU a:=by simpa using g);refine sk (xt (rg [] rfl ?_));refine ⟨m+1,?_,?_,?_⟩;{exact c};{refine eX ⟨cq,cq,⟨rfl,_,rfl,ah (by rw [e,sK,Y0 f,aaI d,Y0 hl] <;> rfl)⟩,⟨rfl,_,rfl,ah (by rw [e,sK,Y0 f,aaI d,Y0 hl] <;> rfl)⟩,⟨rfl,_,rfl,ah (by rw [j])⟩,tt⟩ trivial};(try simp only []);first | omega | grind};(have d:¬ 63 - m=63:=by simp at n;omega);refine sk (sq (rg [] rfl ?_));refine sg rfl (sg rfl ?_);refine sg rfl (cd rfl (λh=>?_) (λh=>?_));{(have hl:wU (wU (s.2*2)+wU a)<wU (s.2*2):=by simpa using h);refine rg [] rfl (rg [] rfl ?_);refine ⟨m+1,?_,?_,?_⟩;{exact c};{refine eX ⟨cq,cq,⟨rfl,_,rfl,ah (by rw [e,sK,Y0 f,Y0 d,aaI hl] <;> rfl)⟩,⟨rfl,_,rfl,ah (by rw [e,sK,Y0 f,Y0 d,aaI hl] <;> rfl)⟩,⟨rfl,_,rfl,ah (by rw [j])⟩,tt⟩ trivial};(try simp only []);first | omega | grind};(have hl:¬ wU (wU (s.2*2)+wU a)<wU (s.2*2):=by simpa using h);refine sk (rg [] rfl ?_);refine ⟨m+1,?_,?_,?_⟩;{exact c};{refine eX ⟨cq,cq,⟨rfl,_,rfl,ah (by rw [e,sK,Y0 f,Y0 d,Y0 hl] <;> rfl)⟩,⟨rfl,_,rfl,ah (by rw [e,sK,Y0 f,Y0 d,Y0 hl] <;> rfl)⟩,⟨rfl,_,rfl,ah (by rw [j])⟩,tt⟩ trivial};(try simp only []);first | omega | grind};(have c:m=64:=by simp at k;omega);refine xt (sq (rg [] rfl ?_));refine rX ?_;subst c;rw [LH r hb];exact aH hT [] (ts:=[(4,.int (wI (og a b))),(5,.v (.int .u64 (vV a b)))]) (l:=[.int (wI (og a b)),.v (.int .u64 (vV a b))]) trivial ⟨⟨rfl,_,rfl,ah rfl⟩,⟨rfl,_,rfl,ah rfl⟩,tt⟩ trivial rfl rfl rfl
end Go.Ab
