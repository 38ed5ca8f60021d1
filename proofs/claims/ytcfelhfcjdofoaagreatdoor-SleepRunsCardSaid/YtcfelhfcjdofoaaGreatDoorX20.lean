/- Part 21 of a proof of a statement about the given program: an abstract machine over the model, proved sound, and contracts of the functions that the statement reaches; the last part proves the statement, for every input, with no condition. -/
import Derived.Test.YtcfelhfcjdofoaaGreatDoorX19
import Derived.Test.YtcfelhfcjdofoaaGreatDoorX17
import Derived.Test.YtcfelhfcjdofoaaGreatDoorX15
set_option autoImplicit false
set_option linter.unusedSimpArgs false
set_option linter.unusedVariables false
set_option maxHeartbeats 4000000
set_option maxRecDepth 20000
namespace Go.Ab
open Go.Proofs
theorem qV {a:Int} (b : -100<=a) (c:a<=100):oD a:=⟨by omega,by omega⟩
theorem Yr (b:Bool):oD (jU b):=by cases b <;> decide
theorem Yt {c:Prop} [Decidable c] {x y:Int} (a:oD x) (b:oD y):oD (if c then x else y):=by split <;> assumption
theorem abR {op a:Int} (c:oD a):oD (lJ op a):=by
 unfold lJ;have hb:Go.Lib.bitLen (wU a).toNat<=64:=Go.Lib.bitLen_le _ 64 (by decide) (by have:=sD a;omega);have hc:Go.Lib.ctz 64 (wU a).toNat<=64:=by have b:=Jt a;rw [show lJ 6 a=((Go.Lib.ctz 64 (wU a).toNat:Nat):Int)from rfl]at b;(have:∀ k,Aq a k<=k:=λk=>by induction k with| zero=>exact abd _| succ k d=>(rw [Aq];split <;> omega));have:=this 64;omega
 rw [aaW,Hl,Zm];repeat' first | exact qc _ | exact c | exact Yr _ | exact ⟨by omega,by omega⟩ | refine Yt ?_ ?_
theorem abt {op a b:Int} (c:oD a) (hb:oD b):oD (mg op a b):=by
 unfold mg;rw [Zm a b,acX,aaW,acY];repeat' first | exact qc _ | exact c | exact hb | exact Yr _ | refine Yt ?_ ?_
theorem acj {op a b:Int} (c:oD a) (hb:oD b):oD (lG op a b).1:=by
 unfold lG;split
 ·exact qV (by decide) (by decide)
 split
 ·exact abR c
 split
 ·unfold yA;split;{exact qV (by decide) (by decide)};split;{exact qc _};split;{exact qc _};split;{exact qV (by decide) (by decide)};obtain ⟨g1,f⟩:=c;have:=Int.natAbs_tmod a b;have e:a.natAbs % b.natAbs<=a.natAbs:=Nat.mod_le _ _;have d:=λh=>ae6 b (a := -a) h;rw [Int.neg_tmod]at d;rcases Int.le_total 0 a with h | h;{have:=ae6 b h;constructor <;> omega};have:=d (by omega);constructor <;> omega
 split
 ·unfold NJ;split;{exact qV (by decide) (by decide)};split;{exact qc _};split;{rw [<- SI c];exact qc _};exact qc _
 exact abt c hb
def okW (g:iW):Prop := ∀ r∈g.regs,oD r
theorem zk {g:iW} (h:okW g) (r:Int):oD (bn g r):=by
 unfold bn;rw [aae];rcases adv r.toNat g.regs.length with a | a
 ·rw [Y0 a];exact h _ (acr _)
 rw [adA a];exact qV (by decide) (by decide)
theorem FK {g:iW} (h:okW g) (r:Int) {v:Int} (b:oD v):okW (rV g r v):=λx hx=>by
 rcases ad1 hx with a | rfl
 ·exact h x a
 ·exact b
theorem FQ (g:iW) (a b:Int):okW (kP g a b):=λx hx=>by
 have:x=0:=by simpa [kP,z8]using hx
 subst this;exact qV (by decide) (by decide)
theorem abV {g:iW} (h:okW g) (x:iG):oD (CY g x).1:=by
 refine acj (zk h _) ?_;split
 ·exact zk h _
 exact qV (by decide) (by decide)
theorem Yj {g:iW} (h:okW g) {x:iG} (hx:oD x.n):okW (lq g x):=by
 have hp:∀ n,okW { g with pc:=n}:=λ_=>h;unfold lq;repeat' split
 all_goals first | exact FQ _ _ _ | exact hp _ | exact FK (hp _) _ hx | exact FK (hp _) _ (zk h _) | exact FK (hp _) _ (abV h _)
def XB (F:gq):Prop := ∀ x∈F.code,oD x.n
theorem Zo {F:gq} (h:XB F) (g:iW):oD (KF F g).n:=by
 unfold KF;rw [aae];rcases adv g.pc.toNat F.code.length with a | a
 ·rw [Y0 a];exact h _ (acr _)
 rw [adA a];exact qV (by decide) (by decide)
theorem Lp {F:gq} (hF:XB F):∀ (n:Nat) {g:iW},okW g->okW (lV F n g)
 | 0,g,h=>by rw [lV];split <;> exact h
 | n+1,g,h=>by rw [lV];split;{exact Lp hF n (Yj h (Zo hF g))};exact h
theorem aG (x y:AV):x.put [] y=y:=by cases x <;> rfl
theorem zN (g:iW) (st why:Int):AC Tryz.prog T aH 147 [bV g,.int st,.int why] [] (bV (kP g st why)) []:=by
 refine aX Tryz.func147 ?_;refine sg rfl (sg rfl ?_);refine rX ?_;refine aW hT rfl rfl rfl rfl rfl (ah ?_) rfl rfl rfl;exact (aG _ _).trans (bH λq=>by match q with | 0 | 1 | 2 | 3=>rfl | 4=>exact Gf _ | q+5=>rfl)
theorem Xi {F:gq} {g:iW} (h:g.status≠1):∀ n,lV F n g=g
 | 0=>by rw [lV,xw (by unfold BX;simp [h])]
 | n+1=>by rw [lV,xw (by unfold BX;simp [h])]
theorem EK (p:ak) (g:iW) (n:Nat) (hp:qJ p) (hb:aZ g.func p.funcs.length) (hg:Am (bP p g) g) (hw:okW g) (hc:XB (bP p g)) (hn:n<=4096):AC Tryz.prog T aH 103 [aj p,bV g,.int n] [] (bV (lV (bP p g) n { g with status:=1})) []:=by
 refine aX Tryz.func103 ?_;have hF:xk p (bP p g):=hp.fn _ (by
  unfold aZ at hb
  rw [bP,aae,Y0 (show g.func.toNat<p.funcs.length by omega)]
  exact acr _)
 have d6:=hF.code;refine sg rfl (sg rfl ?_);refine bk (WP.loop (α:=Nat×iW) (λ(⟨k,x⟩:Nat×iW)=>aN [(2,.int k),(3,.rp 26 (aj p)),(4,.ptr (.s 4 0) 1 0 []),(6,.ptr (.s 6 0) 1 0 [])] [(.s 4 0,.cells ⟨59,1,λ_=>bV x,0⟩),(.s 6 0,.cells ⟨59,1,λ_=>(T 59).zero,0⟩)]) (λ(⟨k,x⟩:Nat×iW)=>lV (bP p g) k x=lV (bP p g) n { g with status:=1}/\Am (bP p g) x/\k<=n/\x.status=1/\okW x/\x.func=g.func) (λ(⟨k,x⟩:Nat×iW)=>k) ?_ ?_)
 ·refine ⟨⟨n,{ g with status:=1}⟩,?_,?_⟩;{exact ⟨rfl,hg,abd _,rfl,hw,rfl⟩};refine em [(.s 3 0,1)] ⟨sF,tt⟩ ⟨cq,rq,cq,cq,tt⟩ ⟨obs rfl (hg:=q0 (ah (gI g 1))),obs rfl,tt⟩
 rintro ⟨k,x⟩ ⟨hs,hx,hk,hx1,t,a8⟩;have b9:=hx.2;have b2:=hb;simp only [aZ]at b9 b2;(have b3:bP p x=bP p g:=by unfold bP;rw [a8]);refine bk (sq (drs [] rfl ?_ ?_));{rw [show (bP p g).code.length=(bP p x).code.length by rw [b3]]at b9;rw [<- a8]at b2;exact au};refine sq (sq ?_);obtain ⟨i,hi⟩:∃ i,KF (bP p g) x=i:=⟨_,rfl⟩;have h:=Ie hF hx.2;have b4:=Zo hc x;rw [show (bP p g).code.getD x.pc.toNat mZ=i from hi]at h;rw [hi]at b4;refine wF [(.s 7 0,1)] ⟨sF,tt⟩ [(2,.int k),(3,.rp 26 (aj p)),(4,.ptr (.s 4 0) 1 0 []),(6,.ptr (.s 6 0) 1 0 []),(7,.rp 120 (aQ i))] [(.s 4 0,.cells ⟨59,1,λ_=>bV x,0⟩),(.s 6 0,.cells ⟨59,1,λ_=>(T 59).zero,0⟩)] ⟨cq,cq,cq,cq,⟨rfl,_,rfl,bM rfl rfl (by decide) rfl (by rw [<- hi,<- b3];rfl) rfl⟩,tt⟩ ⟨obs rfl,obs rfl,tt⟩ (rgs [CG.pure (.bool (nR i.op))] rfl ?_ ?_);{have hq:=D9 i.op;exact au};refine cd rfl (λh3=>?_) (λh3=>?_);{(have hl:nR i.op=false:=by simpa using h3);refine sg rfl (rX ?_);refine aW hT rfl rfl rfl rfl rfl (ah ?_) rfl rfl rfl;(have e:lV (bP p g) k x=x:=by(have hr:BX (bP p g) x=false:=by unfold BX;rw [hi,hl,Bool.and_false]);cases k <;> rw [lV,xw (by rw [hr];decide)]);rw [<- hs,e];exact aG _ _};(have hl:nR i.op=true:=by simpa using h3);(have hr:BX (bP p g) x=true:=by unfold BX;rw [hi,hl,hx1];rfl);have d7:x.regs.length=8:=hx.1;have e5:=hF.regs;have hn:=h.num;have b7:=h.num2;have r:=h.const;have b6:=h.move;have hj:=h.jump;have c9:=h.cond;simp only [jc,aZ]at hn b7 r b6 hj c9;refine sk (sq (sq (rg [] rfl ?_)));refine cd rfl (λh5=>?_) (λh5=>?_);{(have b5:k=0:=by simp at h5;omega);subst b5;refine sg rfl (sg rfl ?_);refine rX ?_;refine aW hT rfl rfl rfl rfl rfl (ah ?_) rfl rfl rfl;rw [<- hs,lV,aa2 hr];exact (aG _ _).trans (gI _ _)};(have b5:0<k:=by simp at h5;omega);obtain ⟨j,rfl⟩:∃ j,k=j+1:=⟨k - 1,by omega⟩;rw [lV,aa2 hr,hi]at hs;(have l:∀ a b:Int,a≠1->lq x i=kP x a b->lV (bP p g) n { g with status:=1}=kP x a b:=λa b ha hl=>by rw [<- hs,hl];exact Xi ha _);(have f:∀ y,lq x i=y->y.status=1->lV (bP p g) j y=lV (bP p g) n { g with status:=1}/\Am (bP p g) y/\j<=n/\y.status=1/\okW y/\y.func=g.func:=λy e h1=>by subst e;have h2:=Df hF hx (by rw [hi];exact hl);rw [hi]at h2;exact ⟨hs,h2.1,by omega,h1,Yj t b4,h2.2.trans a8⟩);(have d9:1<=i.op/\(i.op<=36\/40<=i.op)/\i.op<=45:=by simp [nR]at hl;omega);(have m:0<=x.pc/\x.pc<64:=by omega);refine sk (sq (rg [] rfl ?_));refine sq (bk (sq (rg [] rfl ?_)));refine cd rfl (λu=>?_) (λu=>?_);{(have d1:i.op<=15:=by simpa using u);have d0:=hn (by omega);(have a7:CY x i=lG i.op (bn x i.b) 0:=by rw [CY,xw (by omega)]);(have c8:(lG i.op (bn x i.b) 0).2=0:=by(have ha:kR i.op=1:=by rw [kR,aa2 (by omega)]);rw [lG,xw (by omega),aa2 ha]);(have d:lq x i=rV { x with pc:=x.pc+1} i.a (lG i.op (bn x i.b) 0).1:=by rw [lq,xw (by omega),xw (by omega),xw (by omega),xw (by omega),xw (by omega),xw (by omega),a7,c8,xw (by decide),xw (by decide)]);refine sq (drs [CG.pure (.tup [.int (lG i.op (bn x i.b) 0).1,.int (lG i.op (bn x i.b) 0).2])] rfl ?_ ?_);{have hq:=JK i.op (bn x i.b) 0 (zk t _) (qV (by decide) (by decide));exact au};refine rgs [] rfl ?_ ?_;{exact au};refine rg [] rfl ⟨⟨j,rV { x with pc:=x.pc+1} i.a (lG i.op (bn x i.b) 0).1⟩,?_,?_,?_⟩;{exact f _ d hx1};{refine eX ⟨⟨rfl,_,rfl,ah (by rw [bK (by omega) (by omega)];simp)⟩,cq,cq,cq,tt⟩ ⟨obs rfl (hg:=q0 (ah ((ac8 (λz=>AV.put z [2] (.int (IntKind.i64.wrap (x.pc+1)))) (kU (g:=x) (k:=i.a.toNat) (lG i.op (bn x i.b) 0).1 (by omega))).trans (Bo (g:={ x with regs:=x.regs.set i.a.toNat (lG i.op (bn x i.b) 0).1}) m)))),obs rfl,tt⟩};(try simp only []);first | omega | grind};(have d1:¬ i.op<=15:=by simpa using u);refine sg rfl (cd rfl (λv=>?_) (λv=>?_));{(have b8:i.op<=36:=by simpa using v);have d0:=hn (by omega);have d3:=b7 (by omega);(have a7:CY x i=lG i.op (bn x i.b) (bn x i.c):=by rw [CY,aa2 (by omega)]);(have d:lq x i=if (lG i.op (bn x i.b) (bn x i.c)).2=20 then kP x 4 2 else if (lG i.op (bn x i.b) (bn x i.c)).2=21 then kP x 4 3 else rV { x with pc:=x.pc+1} i.a (lG i.op (bn x i.b) (bn x i.c)).1:=by rw [lq,xw (by omega),xw (by omega),xw (by omega),xw (by omega),xw (by omega),xw (by omega),a7]);refine sq (drs [CG.pure (.tup [.int (lG i.op (bn x i.b) (bn x i.c)).1,.int (lG i.op (bn x i.b) (bn x i.c)).2])] rfl ?_ ?_);{have hq:=JK i.op (bn x i.b) (bn x i.c) (zk t _) (zk t _);exact au};refine sq (sq (rg [] rfl ?_));refine cd rfl (λw=>?_) (λw=>?_);{(have he:(lG i.op (bn x i.b) (bn x i.c)).2=20:=by simpa using w);rw [aa2 he]at d;refine sq (rgs [CG.pure (bV (kP x 4 2))] rfl ?_ ?_);{have hq:=zN x 4 2;exact au};refine rX ?_;refine aW hT rfl rfl rfl rfl rfl (ah ?_) rfl rfl rfl;rw [l 4 2 (by decide) d];exact aG _ _};(have he:(lG i.op (bn x i.b) (bn x i.c)).2≠20:=by simpa using w);rw [xw he]at d;refine sk (sq (sq (rg [] rfl ?_)));refine cd rfl (λa0=>?_) (λa0=>?_);{(have a6:(lG i.op (bn x i.b) (bn x i.c)).2=21:=by simpa using a0);rw [aa2 a6]at d;refine sq (rgs [CG.pure (bV (kP x 4 3))] rfl ?_ ?_);{have hq:=zN x 4 3;exact au};refine rX ?_;refine aW hT rfl rfl rfl rfl rfl (ah ?_) rfl rfl rfl;rw [l 4 3 (by decide) d];exact aG _ _};(have a6:(lG i.op (bn x i.b) (bn x i.c)).2≠21:=by simpa using a0);rw [xw a6]at d;refine sk (rgs [] rfl ?_ ?_);{exact au};refine rg [] rfl ⟨⟨j,rV { x with pc:=x.pc+1} i.a (lG i.op (bn x i.b) (bn x i.c)).1⟩,?_,?_,?_⟩;{exact f _ d hx1};{refine eX ⟨⟨rfl,_,rfl,ah (by rw [bK (by omega) (by omega)];simp)⟩,cq,cq,cq,tt⟩ ⟨obs rfl (hg:=q0 (ah ((ac8 (λz=>AV.put z [2] (.int (IntKind.i64.wrap (x.pc+1)))) (kU (g:=x) (k:=i.a.toNat) (lG i.op (bn x i.b) (bn x i.c)).1 (by omega))).trans (Bo (g:={ x with regs:=x.regs.set i.a.toNat (lG i.op (bn x i.b) (bn x i.c)).1}) m)))),obs rfl,tt⟩};(try simp only []);first | omega | grind};(have b8:¬ i.op<=36:=by simpa using v);refine sg rfl (cd rfl (λa1=>?_) (λa1=>?_));{(have e:i.op=40:=by simpa using a1);have:=r (.inl e);(have d:lq x i=rV { x with pc:=x.pc+1} i.a i.n:=by rw [lq,aa2 e]);refine rgs [] rfl ?_ ?_;{exact au};refine rg [] rfl ⟨⟨j,rV { x with pc:=x.pc+1} i.a i.n⟩,?_,?_,?_⟩;{exact f _ d hx1};{refine eX ⟨⟨rfl,_,rfl,ah (by rw [bK (by omega) (by omega)];simp)⟩,cq,cq,cq,tt⟩ ⟨obs rfl (hg:=q0 (ah ((ac8 (λz=>AV.put z [2] (.int (IntKind.i64.wrap (x.pc+1)))) (kU (g:=x) (k:=i.a.toNat) i.n (by omega))).trans (Bo (g:={ x with regs:=x.regs.set i.a.toNat i.n}) m)))),obs rfl,tt⟩};(try simp only []);first | omega | grind};(have e0:i.op≠40:=by simpa using a1);refine sg rfl (cd rfl (λa2=>?_) (λa2=>?_));{(have e:i.op=41:=by simpa using a2);have:=b6 e;(have d:lq x i=rV { x with pc:=x.pc+1} i.a (bn x i.b):=by rw [lq,xw e0,aa2 e]);refine drs [] rfl ?_ ?_;{exact au};refine rg [] rfl ⟨⟨j,rV { x with pc:=x.pc+1} i.a (bn x i.b)⟩,?_,?_,?_⟩;{exact f _ d hx1};{refine eX ⟨⟨rfl,_,rfl,ah (by rw [bK (by omega) (by omega)];simp)⟩,cq,cq,cq,tt⟩ ⟨obs rfl (hg:=q0 (ah ((ac8 (λz=>AV.put z [2] (.int (IntKind.i64.wrap (x.pc+1)))) (kU (g:=x) (k:=i.a.toNat) (bn x i.b) (by omega))).trans (Bo (g:={ x with regs:=x.regs.set i.a.toNat (bn x i.b) }) m)))),obs rfl,tt⟩};(try simp only []);first | omega | grind};(have e1:i.op≠41:=by simpa using a2);refine sg rfl (cd rfl (λa3=>?_) (λa3=>?_));{(have e:i.op=42:=by simpa using a3);(have d:lq x i={ x with pc:=i.a}:=by rw [lq,xw e0,xw e1,aa2 e]);refine sg rfl (xt ?_);refine ⟨⟨j,{ x with pc:=i.a}⟩,?_,?_,?_⟩;{exact f _ d hx1};{refine eX ⟨⟨rfl,_,rfl,ah (by rw [bK (by omega) (by omega)];simp)⟩,cq,cq,cq,tt⟩ ⟨obs rfl (hg:=q0 (ah (qj x i.a))),obs rfl,tt⟩};(try simp only []);first | omega | grind};(have e2:i.op≠42:=by simpa using a3);refine sg rfl (cd rfl (λa4=>?_) (λa4=>?_));{(have e:i.op=43:=by simpa using a4);have:=r (.inr (.inr (.inr (.inr e))));(have d:lq x i=(if bn x i.a≠0 then { x with pc:=i.b}else { x with pc:=x.pc+1}):=by rw [lq,xw e0,xw e1,xw e2,aa2 e]);refine sq (rgs [] rfl ?_ ?_);{exact au};refine cd rfl (λo=>?_) (λo=>?_);{(have hz:bn x i.a≠0:=by simp [-List.getD_eq_getElem?_getD]at o;exact o);rw [aa2 hz]at d;refine sg rfl (xt ?_);refine ⟨⟨j,{ x with pc:=i.b}⟩,?_,?_,?_⟩;{exact f _ d hx1};{refine eX ⟨⟨rfl,_,rfl,ah (by rw [bK (by omega) (by omega)];simp)⟩,cq,cq,cq,tt⟩ ⟨obs rfl (hg:=q0 (ah (qj x i.b))),obs rfl,tt⟩};(try simp only []);first | omega | grind};(have hz:¬ bn x i.a≠0:=by simp [-List.getD_eq_getElem?_getD]at o;simpa using o);rw [xw hz]at d;refine sk (rg [] rfl ?_);refine ⟨⟨j,{ x with pc:=x.pc+1}⟩,?_,?_,?_⟩;{exact f _ d hx1};{refine eX ⟨⟨rfl,_,rfl,ah (by rw [bK (by omega) (by omega)];simp)⟩,cq,cq,cq,tt⟩ ⟨obs rfl (hg:=q0 (ah (Bo m))),obs rfl,tt⟩};(try simp only []);first | omega | grind};(have e3:i.op≠43:=by simpa using a4);refine sg rfl (cd rfl (λa5=>?_) (λa5=>?_));{(have e:i.op=44:=by simpa using a5);have:=r (.inr (.inl e));(have d:lq x i=(if bn x i.a=0 then kP x 4 1 else { x with pc:=x.pc+1}):=by rw [lq,xw e0,xw e1,xw e2,xw e3,aa2 e]);refine sq (rgs [] rfl ?_ ?_);{exact au};refine cd rfl (λq=>?_) (λq=>?_);{(have hz:bn x i.a=0:=by simp [-List.getD_eq_getElem?_getD]at q;exact q);rw [aa2 hz]at d;refine sq (rgs [CG.pure (bV (kP x 4 1))] rfl ?_ ?_);{have hq:=zN x 4 1;exact au};refine rX ?_;refine aW hT rfl rfl rfl rfl rfl (ah ?_) rfl rfl rfl;rw [l 4 1 (by decide) d];exact aG _ _};(have hz:¬ bn x i.a=0:=by simp [-List.getD_eq_getElem?_getD]at q;exact q);rw [xw hz]at d;refine sk (rg [] rfl ?_);refine ⟨⟨j,{ x with pc:=x.pc+1}⟩,?_,?_,?_⟩;{exact f _ d hx1};{refine eX ⟨⟨rfl,_,rfl,ah (by rw [bK (by omega) (by omega)];simp)⟩,cq,cq,cq,tt⟩ ⟨obs rfl (hg:=q0 (ah (Bo m))),obs rfl,tt⟩};(try simp only []);first | omega | grind};(have e4:i.op≠44:=by simpa using a5);(have e:i.op=45:=by omega);(have d:lq x i=kP x 3 0:=by rw [lq,xw e0,xw e1,xw e2,xw e3,xw e4,aa2 e]);refine sq (rgs [CG.pure (bV (kP x 3 0))] rfl ?_ ?_);{have hq:=zN x 3 0;exact au};refine rX ?_;refine aW hT rfl rfl rfl rfl rfl (ah ?_) rfl rfl rfl;rw [l 3 0 (by decide) d];exact aG _ _
instance (b:dO):Decidable (rP b):=by unfold rP;infer_instance
theorem QE (b:dO):AC Tryz.prog T aH 25 [bY b] [] (.bool (decide (rP b))) []:=by
 refine aX Tryz.func25 ?_;refine sg rfl (sg rfl ?_);refine rX ?_;refine fin1 hT (by rfl) ?_;simp only [band];rw [acs];simp [rP,and_assoc]
def uM (p:ak):Prop:=(∀ v∈p.vars,oD v.init) /\ ∀ f∈p.funcs,XB f
theorem uM.fn {p:ak} (h:uM p) (g:iW):XB (bP p g):=by
 unfold bP;rw [aae];rcases adv g.func.toNat p.funcs.length with a | a
 ·rw [Y0 a];exact h.2 _ (acr _)
 rw [adA a];intro x hx;cases hx
structure WS (s:cZ):Prop where
 vars:∀ v∈s.vars,oD v
 ch:∀ c∈s.chans,(∀ v∈c.buf,oD v)/\oD c.val
 go:∀ g∈s.gos,okW g
theorem O4:okW go0:=λx hx=>by
 have:x=0:=by simpa [go0]using hx
 subst this;exact qV (by decide) (by decide)
theorem WS.at {s:cZ} (h:WS s) (g:Int):okW (goI s g):=by
 unfold goI;rw [aae];rcases adv g.toNat s.gos.length with a | a
 ·rw [Y0 a];exact h.go _ (acr _)
 rw [adA a];exact O4
theorem UM (p:ak) (n:Int) (hw:uM p):AC Tryz.prog T aH 56 [aj p,.int n] [] (.tup [encS (dJ p n).1,.int (dJ p n).2]) []:=by
 refine aX Tryz.func56 ?_;refine sg rfl (sq (sq (rgs [CG.pure (.bool (fE p))] rfl ?_ ?_)))
 ·have f:=Cc p;exact au
 refine cd rfl (λd=>?_) (λd=>?_)
 ·(have a:fE p=false:=by simpa using d);refine sg rfl (rX ?_);exact oI hT rfl rfl rfl (ah ((aG _ _).trans (by rw [dJ,aa2 a];exact zeroS))) (by rw [dJ,aa2 a])
 (have a:fE p=true:=by simpa using d);have hp:=kJ a;refine sk (sq (sq (rg [] rfl ?_)));refine cd rfl (λc=>?_) (λc=>?_);{(have hf:¬ (0<=n/\n<=4096):=by simp only [fG]at c;simp at c;omega);refine sg rfl (rX ?_);exact oI hT rfl rfl rfl (ah ((aG _ _).trans (by rw [dJ,xw (by simp [a]),aa2 hf];exact zeroS))) (by rw [dJ,xw (by simp [a]),aa2 hf])};(have hf:0<=n/\n<=4096:=by simp only [fG]at c;simp at c;omega);obtain ⟨k,rfl⟩:=aeV hf.1;have h:=hp.vars;(have g:(T 62).zero.put [4] (.int 1)=encS { st0 with count:=1,vars:=lM p 0}:=by rw [zeroS,xM];rfl);refine sk (sq (rg [] rfl ?_));refine sq (sq (rg [] rfl ?_));refine bk (WP.loop (α:=Nat) (λi=>aN [(1,.int k),(2,.rp 26 (aj p)),(4,.ptr (.s 4 0) 1 0 []),(6,.ptr (.s 6 0) 1 0 []),(22,rowP 116 Ez Jd p.vars),(23,.int p.vars.length),(24,.int i)] [(.s 4 0,.cells ⟨62,1,λ_=>(T 62).zero,0⟩),(.s 6 0,.cells ⟨62,1,λ_=>encS { st0 with count:=1,vars:=lM p i},0⟩)]) (λi=>i<=p.vars.length) (λi=>p.vars.length - i) ?_ ?_);{refine ⟨0,?_,?_⟩;{exact abq _};refine em [(.s 2 0,1)] ⟨sF,tt⟩ ⟨cq,rq,cq,cq,cq,cq,cq,tt⟩ ⟨obs rfl,obs rfl (hg:=q0 (ah ((aG _ _).trans g))),tt⟩};rintro i hi;refine sg rfl (sq ?_);refine cd rfl (λe=>?_) (λe=>?_);{(have b:i<p.vars.length:=by simp [-List.getD_eq_getElem?_getD]at e;omega);refine sk (sq (bk (sq (rgs [] rfl ?_ ?_))));{simp [-List.getD_eq_getElem?_getD,ay,under];omega};refine rgs [] rfl ?_ ?_;{simp [-List.getD_eq_getElem?_getD,ay,under];omega};refine rg [] rfl ⟨i+1,?_,?_,?_⟩;{exact b};{refine eX cX ⟨obs rfl,obs rfl (hg:=q0 (ah ((wz _ (by show _<(lM p i).length;rw [Bl];omega)).trans (by simp only [adu];rw [Ih (by omega)])))),tt⟩};(try simp only []);first | omega | grind};(have b:i=p.vars.length:=by simp [-List.getD_eq_getElem?_getD]at e;omega);subst b;refine xt (sq (rgs [CG.pure (bV (lV (aV p 0) k live0))] rfl ?_ ?_));{have f:=EK p go0 k hp ⟨by decide,by have:=hp.funcs;show (0:Int)<_;omega⟩ (Yz hp) O4 (hw.fn go0) (by omega);rw [<- F9]at f;exact au};refine sg rfl (rX ?_);refine oI hT rfl rfl rfl (ah ((aG _ _).trans ?_)) (by rw [dJ,xw (by simp [a]),xw (by simp;omega)]);rw [dJ,xw (by simp [a]),xw (by simp;omega)];exact ng (by show 0<6;omega) (aG _ _)
theorem GL (p:ak) (s:cZ) (g n:Int) (r:oh s) (hw:uM p) (t:WS s):AC Tryz.prog T aH 211 [aj p,encS s,.int g,.int n] [] (.tup [encS (bZ p s g n).1,.int (bZ p s g n).2]) []:=by
 refine aX Tryz.func211 ?_;refine sg rfl (sq (sq ?_));refine WP.ent (st':=aN [(4,.rp 26 (aj p)),(2,.int g),(3,.int n),(5,.ptr (.s 5 0) 1 0 []),(8,.ptr (.s 8 0) 1 0 [])] [(.s 5 0,.cells ⟨62,1,λ_=>encS s,0⟩),(.s 8 0,.cells ⟨62,1,λ_=>(T 62).zero,0⟩)]) (em [(.s 4 0,1)] ⟨sF,tt⟩ ⟨rq,cq,cq,cq,cq,tt⟩ ⟨obs rfl,obs rfl,tt⟩) ?_;refine rgs [CG.pure (.bool (fE p))] rfl ?_ ?_
 ·have u:=Cc p;exact au
 refine cd rfl (λm=>?_) (λm=>?_)
 ·(have j:fE p=false:=by simpa using m);refine sg rfl (rX ?_);exact oI hT rfl rfl rfl (ah ((aG _ _).trans (by rw [bZ,aa2 j];exact zeroS))) (by rw [bZ,aa2 j])
 (have j:fE p=true:=by simpa using m);have hp:=kJ j;(have hr0:¬ fE p=false:=by simp [j]);refine sk (sq (sq (rgs [CG.pure (.bool (decide (dF p s)))] rfl ?_ ?_)));{have u:=UK p s r;exact au};refine cd rfl (λo=>?_) (λo=>?_);{(have l:¬ dF p s:=by simpa using o);refine sg rfl (rX ?_);exact oI hT rfl rfl rfl (ah ((aG _ _).trans (by rw [bZ,xw hr0,aa2 l];exact zeroS))) (by rw [bZ,xw hr0,aa2 l])};(have l:dF p s:=by simpa using o);have a:¬ ¬ dF p s:=λh=>h l;refine sk (sq (sq (rg [] rfl ?_)));refine cd rfl (λf=>?_) (λf=>?_);{(have i:¬ ((0<=g/\g<6)/\(0<=n/\n<=4096)):=by simp only [fG]at f;simp at f;omega);refine sg rfl (rX ?_);exact oI hT rfl rfl rfl (ah ((aG _ _).trans (by rw [bZ,xw hr0,xw a,aa2 i];exact zeroS))) (by rw [bZ,xw hr0,xw a,aa2 i])};(have i:(0<=g/\g<6)/\(0<=n/\n<=4096):=by simp only [fG]at f;simp at f;omega);have b:¬ ¬ ((0<=g/\g<6)/\(0<=n/\n<=4096)):=λh=>h i;refine sk (sq (sq (rg [] rfl ?_)));refine cd rfl (λq=>?_) (λq=>?_);{(have hc:s.count<=g:=by simpa using q);refine sg rfl (rX ?_);exact oI hT rfl rfl rfl (ah ((aG _ _).trans (by rw [bZ,xw hr0,xw a,xw b,aa2 hc];exact zeroS))) (by rw [bZ,xw hr0,xw a,xw b,aa2 hc])};(have hc:¬ s.count<=g:=by simpa using q);have v:=r.gos;refine sk (sq (sq (rgs [] rfl ?_ ?_)));{exact au};refine cd rfl (λd=>?_) (λd=>?_);{(have c:(goI s g).status=1\/(goI s g).status=5:=by simp only [fG]at d;simp [-List.getD_eq_getElem?_getD]at d;exact d);have e:=(l.2.2.2.2.1 g.toNat (by omega)).1 (by omega);obtain ⟨k,rfl⟩:=aeV i.2.1;refine drs [CG.pure (bV (lV (bP p (goI s g)) k { goI s g with status:=1}))] rfl ?_ ?_;{have u:=EK p (goI s g) k hp e.2.1 ⟨gZ r _,e.2.2.1⟩ (t.at g) (hw.fn _) (by omega);exact au};refine sg rfl (rX ?_);refine oI hT rfl rfl rfl (ah ((aG _ _).trans ?_)) (by rw [bZ,xw hr0,xw a,xw b,xw hc,aa2 c]);rw [bZ,xw hr0,xw a,xw b,xw hc,aa2 c];exact ng (by omega) (Td _ _)};(have c:¬ ((goI s g).status=1\/(goI s g).status=5):=by simp only [fG]at d;simp [-List.getD_eq_getElem?_getD]at d;exact λh=>h.elim d.1 d.2);refine sk (sq (rg [] rfl ?_));refine rX ?_;refine oI hT rfl rfl rfl (ah ((aG _ _).trans ?_)) (by rw [bZ,xw hr0,xw a,xw b,xw hc,xw c]);rw [bZ,xw hr0,xw a,xw b,xw hc,xw c];rfl
theorem JJ (p:ak) (n:Int) (b:dO):AC Tryz.prog T aH 54 [aj p,.int n,bY b] [] (.int (dD p n b)) []:=by
 refine aX Tryz.func54 ?_;refine sg rfl (sq (sq (rgs [CG.pure (.bool (fE p))] rfl ?_ ?_)))
 ·have g:=Cc p;exact au
 refine cd rfl (λd=>?_) (λd=>?_)
 ·refine sg rfl (rX ?_);refine bf hT (by rfl) ?_;unfold dD;cases c:fE p <;> by_cases a:256<n <;> by_cases hb:rP b <;> simp_all <;> omega
 refine sk (sq (sq (rg [] rfl ?_)));refine cd rfl (λe=>?_) (λe=>?_);{refine sg rfl (rX ?_);refine bf hT (by rfl) ?_;unfold dD;cases c:fE p <;> by_cases a:256<n <;> by_cases hb:rP b <;> simp_all <;> omega};refine sk (sq (sq (rgs [CG.pure (.bool (decide (rP b)))] rfl ?_ ?_)));{have g:=QE b;exact au};refine cd rfl (λf=>?_) (λf=>?_);{refine sg rfl (rX ?_);refine bf hT (by rfl) ?_;unfold dD;cases c:fE p <;> by_cases a:256<n <;> by_cases hb:rP b <;> simp_all <;> omega};refine sk (sq (rg [] rfl ?_));refine rX ?_;refine bf hT (by rfl) ?_;unfold dD;cases c:fE p <;> by_cases a:256<n <;> by_cases hb:rP b <;> simp_all <;> omega
theorem wu (p:ak) (s:cZ) (g:Int) (h:dZ p s g):AC Tryz.prog T aH 170 [aj p,encS s,.int g] [] (aQ (insOf p (goI s g))) []:=by
 refine aX Tryz.func170 ?_;refine sg rfl (sq ?_);refine WP.ent (st':=aN [(3,.rp 26 (aj p)),(4,.rp 62 (encS s)),(2,.int g),(6,.ptr (.s 6 0) 1 0 [])] [(.s 6 0,.cells ⟨120,1,λ_=>(T 120).zero,0⟩)]) (em [(.s 3 0,1),(.s 4 0,1)] ⟨sF,sF,tt⟩ ⟨rq,rq,cq,cq,tt⟩ ⟨obs rfl,tt⟩) ?_;refine drs [] rfl ?_ ?_
 ·have c:=h.pos;have a:=h.fit.2.1;have b:=h.fit.2.2.1;simp only [aZ,bP,goI]at a b;simp [-List.getD_eq_getElem?_getD,ay,under];omega
 exact WP.ret (aW hT rfl rfl rfl rfl rfl (ah (aG _ _)) rfl rfl rfl)
def wP (s:cZ) (g:Int):Bool:=decide (0<=g)&&(decide (g<s.count)&&mG (goI s g))
theorem Oh (s:cZ) (g:Int) (hc:s.count<=6):AC Tryz.prog T aH 92 [encS s,.int g] [] (.bool (wP s g)) []:=by
 refine aX Tryz.func92 ?_;refine sg rfl (sq ?_);refine WP.ent (st':=aN [(2,.rp 62 (encS s)),(1,.int g)] []) (em [(.s 2 0,1)] ⟨sF,tt⟩ ⟨rq,cq,tt⟩ trivial) ?_;refine rgs [] rfl ?_ ?_
 ·simp only [ay,under,CG.pure,band,abf,acf];(repeat' with_reducible refine And.intro ?_ ?_);(all_goals (try with_reducible intros));all_goals (first | exact trivial | assumption | omega | (simp_all;done) | (simp_all;omega))
 refine rX ?_;refine fin1 hT (by rfl) ?_;simp only [band,fG];rw [wP,mG];cases decide (0<=g) <;> cases decide (g<s.count) <;> simp
theorem Eb (p:ak) (s:cZ) (g:Int) (h:dZ p s g):AC Tryz.prog T aH 168 [aj p,encS s,.int g] [] (.int (aU p s g).op) []:=by
 refine aX Tryz.func168 ?_;refine sg rfl (sq (sq ?_));refine WP.ent (st':=aN [(3,.rp 26 (aj p)),(4,.rp 62 (encS s)),(2,.int g)] []) (em [(.s 3 0,1),(.s 4 0,1)] ⟨sF,sF,tt⟩ ⟨rq,rq,cq,tt⟩ trivial) ?_;refine rgs [] rfl ?_ ?_
 ·have a:=h.pos;exact au
 refine cd rfl (λa=>?_) (λa=>?_)
 ·(have hw:(goI s g).status=2:=by simp [-List.getD_eq_getElem?_getD]at a;exact a);exact sg rfl (WP.ret (bf hT (by rfl) (by rw [aU,aa2 hw])))
 (have hw:¬ (goI s g).status=2:=by simp [-List.getD_eq_getElem?_getD]at a;exact a);refine sk (sq (rgs [CG.pure (aQ (insOf p (goI s g)))] rfl ?_ ?_));{have b:=wu p s g h;exact au};exact WP.ret (bf hT (by rfl) (by rw [aU,xw hw]))
theorem JF (p:ak) (s:cZ) (c:Int) (hc:aZ c p.chans.length) (b:p.chans.length<=4) (hn:0<=p.chans.getD c.toNat 0):AC Tryz.prog T aH 171 [aj p,encS s,.int c] [] (.bool (jV p s c)) []:=by
 refine aX Tryz.func171 ?_;unfold aZ at hc;refine sg rfl (sq ?_);refine WP.ent (st':=aN [(3,.rp 26 (aj p)),(4,.rp 62 (encS s)),(2,.int c)] []) (em [(.s 3 0,1),(.s 4 0,1)] ⟨sF,sF,tt⟩ ⟨rq,rq,cq,tt⟩ trivial) ?_;refine rgs [] rfl ?_ ?_
 ·exact au
 refine sq (sq ?_);refine WP.ent (st':=aN [(7,.rp 56 (eF (bW s c))),(2,.int c),(3,.rp 26 (aj p)),(4,.rp 62 (encS s))] []) (em [(.s 7 0,1)] ⟨sF,tt⟩ ⟨rq,cq,cq,cq,tt⟩ trivial) ?_;refine rg [] rfl (cd rfl (λe=>?_) (λe=>?_))
 ·have a:(bW s c).closed=true:=e;refine sg rfl (rX ?_);exact fin1 hT (by rfl) (by rw [jV,a];rfl)
 have a:(bW s c).closed=false:=e;refine sk (sq (sq (rgs [] rfl ?_ ?_)));{exact au};refine cd rfl (λb=>?_) (λb=>?_);{(have d:p.chans.getD c.toNat 0>0:=by simp [-List.getD_eq_getElem?_getD]at b;exact b);refine sq (drs [] rfl ?_ ?_);{exact au};refine rX ?_;refine fin1 hT (by rfl) ?_;rw [jV,a,adx d,show (p.chans.getD c.toNat 0==0)=false by simp [-List.getD_eq_getElem?_getD];omega];simp};(have d:¬ p.chans.getD c.toNat 0>0:=by simp [-List.getD_eq_getElem?_getD]at b ⊢;omega);refine sk (sq (rg [] rfl ?_));refine rX ?_;refine fin1 hT (by rfl) ?_;rw [jV,a,acB d,show (p.chans.getD c.toNat 0==0)=true by simp [-List.getD_eq_getElem?_getD];omega];simp
theorem Cb (s:cZ) (c:Int) (hc:0<=c/\c<4):AC Tryz.prog T aH 172 [encS s,.int c] [] (.bool (Cj s c)) []:=by
 refine aX Tryz.func172 ?_;refine sg rfl (sq ?_);refine WP.ent (st':=aN [(2,.rp 62 (encS s)),(1,.int c)] []) (em [(.s 2 0,1)] ⟨sF,tt⟩ ⟨rq,cq,tt⟩ trivial) ?_;refine rgs [] rfl ?_ ?_
 ·exact au
 refine sq (WP.ent (st':=aN [(5,.rp 56 (eF (bW s c)))] []) (em [(.s 5 0,1)] ⟨sF,tt⟩ ⟨rq,tt⟩ trivial) ?_);refine rg [] rfl (rX ?_);exact fin1 hT (by rfl) (by simp only [fG,band];rfl)
theorem Ud {p:ak} (hp:qJ p) {c:Int} (hc:aZ c p.chans.length):0<=p.chans.getD c.toNat 0:=by
 unfold aZ at hc;rw [aae,Y0 (show c.toNat<p.chans.length by omega)];exact (hp.caps _ (acr _)).1
theorem UR (p:ak) (s:cZ) (g:Int) (h:dZ p s g) (a5:(aU p s g).op≠61):AC Tryz.prog T aH 169 [aj p,encS s,.int g] [] (.bool (jd p s g)) []:=by
 refine aX Tryz.func169 ?_;have r:=h.at;have v:=h.pos;have u:=h.prog.chans;have y:=h.valid.2.1.2;refine sg rfl (sq ?_);refine WP.ent (st':=aN [(3,.rp 26 (aj p)),(4,.rp 62 (encS s)),(2,.int g)] []) (em [(.s 3 0,1),(.s 4 0,1)] ⟨sF,sF,tt⟩ ⟨rq,rq,cq,tt⟩ trivial) ?_;refine rgs [CG.pure (aQ (insOf p (goI s g)))] rfl ?_ ?_
 ·have t:=wu p s g h;exact au
 refine sq ?_;have c:(insOf p (goI s g)).a=(aU p s g).a/\(insOf p (goI s g)).b=(aU p s g).b:=by unfold aU;split <;> exact ⟨rfl,rfl⟩
 refine WP.ent (st':=aN [(7,.rp 120 (aQ (insOf p (goI s g)))),(2,.int g),(3,.rp 26 (aj p)),(4,.rp 62 (encS s))] []) (em [(.s 7 0,1)] ⟨sF,tt⟩ ⟨rq,cq,cq,cq,tt⟩ trivial) ?_;refine rgs [] rfl ?_ ?_
 ·exact au
 refine sq (sq ?_);refine WP.ent (st':=aN [(8,.rp 52 (lC 52 8 .i64 (goI s g).regs)),(2,.int g),(3,.rp 26 (aj p)),(4,.rp 62 (encS s)),(7,.rp 120 (aQ (insOf p (goI s g))))] []) (em [(.s 8 0,1)] ⟨sF,tt⟩ ⟨rq,cq,cq,cq,cq,tt⟩ trivial) ?_;refine rgs [CG.pure (.int (aU p s g).op)] rfl ?_ ?_
 ·have t:=Eb p s g h;exact au
 refine bk (sq (rg [] rfl ?_));refine cd rfl (λu=>?_) (λu=>?_)
 ·(have d:(aU p s g).op=54:=by simpa using u);have:=r.await d;rw [<- c.1,<- c.2]at this;refine sq (drs [] rfl ?_ ?_);{exact au};exact WP.ret (fin1 hT (by rfl) (by rw [jd,aa2 d,<- c.1,<- c.2]))
 (have d:(aU p s g).op≠54:=by simpa using u);refine sg rfl (cd rfl (λv=>?_) (λv=>?_));{(have i:(aU p s g).op=55:=by simpa using v);have:=r.lock (.inl i);rw [<- c.1]at this;refine sq (rgs [] rfl ?_ ?_);{exact au};exact WP.ret (fin1 hT (by rfl) (by rw [jd,xw d,aa2 i,<- c.1]))};(have i:(aU p s g).op≠55:=by simpa using v);refine sg rfl (cd rfl (λw=>?_) (λw=>?_));{(have j:(aU p s g).op=58:=by simpa using w);have q:=r.send (.inl j);rw [<- c.1]at q;refine sq (rgs [CG.pure (.bool (jV p s (insOf p (goI s g)).a))] rfl ?_ ?_);{have t:=JF p s (insOf p (goI s g)).a q h.prog.chans (Ud h.prog q);exact au};exact WP.ret (fin1 hT (by rfl) (by rw [jd,xw d,xw i,aa2 j,<- c.1]))};(have j:(aU p s g).op≠58:=by simpa using w);refine sg rfl (cd rfl (λm=>?_) (λm=>?_));{(have e10:(aU p s g).op=59:=by simpa using m);have hb:=r.recv e10;rw [<- c.2]at hb;unfold aZ at hb;refine sq (rgs [CG.pure (.bool (Cj s (insOf p (goI s g)).b))] rfl ?_ ?_);{have t:=Cb s (insOf p (goI s g)).b (by have:=h.prog.chans;omega);exact au};exact WP.ret (fin1 hT (by rfl) (by rw [jd,xw d,xw i,xw j,aa2 e10,<- c.2]))};(have e10:(aU p s g).op≠59:=by simpa using m);refine sg rfl (cd rfl (λn=>?_) (λn=>?_));{(have e12:(aU p s g).op=66:=by simpa using n);(have a3:(goI s g).status=2:=by by_cases hs:(goI s g).status=2;{exact hs};have l:=h.ins.op;rw [show insOf p (goI s g)=aU p s g by rw [aU,xw hs],e12]at l;exact absurd l (by decide));obtain ⟨_,k,z,a0,a1,_⟩:=h.wait a3;have a2:=((h.valid.2.2.2.2.2.1 k (by omega)).1 z).1.2.1;have x:(insOf p (goI s g)).a=k:=a0;refine sq (rgs [] rfl ?_ ?_);{exact au};refine sg rfl (rX ?_);refine fin1 hT (by rfl) ?_;rw [jd,xw d,xw i,xw j,xw e10,aa2 e12,<- c.1,x];simp only [fG];have e:bW s (k:Int)=bI s k:=rfl;rw [e];show ((bI s k).offer==2||(bI s k).offer==3)=((bI s k).offer != 1);obtain ⟨f,hf⟩:∃ f,(bI s k).offer=f:=⟨_,rfl⟩;rw [hf]at a2 a1 ⊢;rw [acs];simp;omega};(have e12:(aU p s g).op≠66:=by simpa using n);refine sg rfl (cd rfl (λo=>?_) (λo=>?_));{(have e14:(aU p s g).op=63:=by simpa using o);have hb:=r.join (.inl e14);rw [<- c.1]at hb;refine sq (rgs [] rfl ?_ ?_);{exact au};refine sq (rgs [CG.pure (.bool (wP s (bn (goI s g) (insOf p (goI s g)).a)))] rfl ?_ ?_);{have t:=Oh s (bn (goI s g) (insOf p (goI s g)).a) y;exact au};refine rX ?_;refine fin1 hT (by rfl) ?_;rw [jd,xw d,xw i,xw j,xw e10,xw e12,aa2 e14,<- c.1];simp only [fG];rw [acs,jL,wP];obtain ⟨k,hk⟩:∃ k,bn (goI s g) (insOf p (goI s g)).a=k:=⟨_,rfl⟩;unfold bn at hk ⊢;rw [hk];cases mG (goI s k) <;> simp <;> omega};(have e14:(aU p s g).op≠63:=by simpa using o);refine sk (sq (rgs [CG.pure (.int (aU p s g).op)] rfl ?_ ?_));{have t:=Eb p s g h;exact au};refine rX ?_;refine fin1 hT (by rfl) ?_;rw [jd,xw d,xw i,xw j,xw e10,xw e12,xw e14];have l:=h.ins.op;rw [<- r.ins e12]at l;unfold nR at l;unfold yQ at l ⊢;rw [acs];simp at l ⊢;omega
def lU (p:ak) (s:cZ) (g:Int):List Int:=if wP s g=true then iR p s g else []
theorem Gp {p:ak} {s:cZ} {g:Int} (b:oh s) (a:dF p s) (h:wP s g=true):dZ p s g:=by
 have hc:=a.2.1;simp only [wP,abf,acf]at h;exact ⟨b,a,h.2.2,by omega⟩
theorem Oq (p:ak) (s:cZ) (g:Int) (ho:oh s) (hv:dF p s):AC Tryz.prog T aH 117 [aj p,encS s,.int g] [] (ints false (lU p s g)) []:=by
 refine aX Tryz.func117 ?_;refine sg rfl (sq ?_);refine WP.ent (st':=aN [(3,.rp 26 (aj p)),(4,.rp 62 (encS s)),(2,.int g)] []) (em [(.s 3 0,1),(.s 4 0,1)] ⟨sF,sF,tt⟩ ⟨rq,rq,cq,tt⟩ trivial) ?_;refine rg [] rfl (sq (sq (rgs [CG.pure (.bool (wP s g))] rfl ?_ ?_)))
 ·have i:=Oh s g hv.2.1.2;exact au
 refine cd rfl (λw=>?_) (λw=>?_)
 ·(have hl:wP s g=false:=by simpa using w);refine sg rfl (rX ?_);refine aJ hT [] (ts:=[(6,ints false (lU p s g))]) (l:=[ints false (lU p s g)]) trivial ⟨⟨rfl,_,rfl,?_⟩,tt⟩ trivial rfl rfl rfl;rw [lU,xw (by rw [hl];decide)];exact eP (by decide)
 (have hl:wP s g=true:=by simpa using w);have h:=Gp ho hv hl;have h6:=h.pos;have a2:=h.prog.chans;rw [show lU p s g=iR p s g from aa2 hl];refine sk (sq (sq (rgs [CG.pure (.int (aU p s g).op)] rfl ?_ ?_)));{have i:=Eb p s g h;exact au};refine cd rfl (λx=>?_) (λx=>?_);{(have b:(aU p s g).op≠61:=by simpa using x);refine sq (sq (rgs [CG.pure (.bool (jd p s g))] rfl ?_ ?_));{have i:=UR p s g h b;exact au};refine cd rfl (λy=>?_) (λy=>?_);{refine rgs [] rfl ?_ ?_;{have v:(T 3).bytes=8:=rfl;exact au};refine sg rfl (rX ?_);(have e:iR p s g=[0]:=by rw [iR,aa2 b,aa2 y]);rw [e];refine aJ hT [(.s 28 0,1)] (ts:=[(6,ints false [0])]) (l:=[ints false [0]]) ⟨⟨_,rfl,abd _⟩,tt⟩ ⟨⟨rfl,_,rfl,?_⟩,tt⟩ trivial rfl rfl rfl;exact iw rfl rfl rfl (λh=>by cases h) (by simp [dW,aS]) (λq i=>by obtain rfl:q=0:=Nat.lt_one_iff.1 i;exact ⟨rfl,vU.refl _⟩)};refine sk (sq (rg [] rfl ?_));refine rX ?_;refine aJ hT [] (ts:=[(6,ints false (iR p s g))]) (l:=[ints false (iR p s g)]) trivial ⟨⟨rfl,_,rfl,?_⟩,tt⟩ trivial rfl rfl rfl;(have e:iR p s g=[]:=by rw [iR,aa2 b,xw (by rw [y];decide)]);rw [e];exact eP (by decide)};(have b:(aU p s g).op=61:=by simpa using x);have o:=h.sel b;have b0:=o.2.len;have m:=o.1;have a1:=h.fit.2.1;(have t:(insOf p (goI s g)).a=(aU p s g).a:=by unfold aU;split <;> rfl);refine sk (sq (drs [] rfl ?_ ?_));{simp only [aZ,bP,goI]at m a1;exact au};refine sq (WP.ent (st':=aN [(8,.rp 100 (dQ (bP p (goI s g)))),(2,.int g),(3,.rp 26 (aj p)),(4,.rp 62 (encS s)),(7,.nils)] []) (em [(.s 8 0,1)] ⟨sF,tt⟩ ⟨rq,cq,cq,cq,cq,tt⟩ trivial) ?_);refine drs [CG.pure (aQ (insOf p (goI s g)))] rfl ?_ ?_;{have i:=wu p s g h;simp only [aZ]at m;rw [<- t]at m;exact au};refine sq (sq ?_);(have a5:(bP p (goI s g)).sels.getD (insOf p (goI s g)).a.toNat qE=bJ p s g:=by rw [t]);refine wF [(.s 9 0,1)] ⟨sF,tt⟩ [(3,.rp 26 (aj p)),(4,.rp 62 (encS s)),(7,.nils),(9,.rp 103 (gB (bJ p s g)))] [] ⟨cq,cq,cq,⟨rfl,_,rfl,bM rfl rfl (by decide) rfl ((aG _ _).trans (ac8 gB a5)) rfl⟩,tt⟩ trivial (rg [] rfl ?_);refine bk (WP.loop (α:=Nat) (λk=>aN [(3,.rp 26 (aj p)),(4,.rp 62 (encS s)),(7,.own (.s 83 0) (fU p s (bJ p s g) k).length 0 (fU p s (bJ p s g) k).length none),(9,.rp 103 (gB (bJ p s g))),(10,.int k)] [(.s 83 0,uG 3 .i64 (fU p s (bJ p s g) k))]) (λk=>k<=(bJ p s g).cases.length) (λk=>(bJ p s g).cases.length - k) ?_ ?_);{refine ⟨0,?_,?_⟩;{exact abq _};refine eX ⟨cq,cq,⟨rfl,_,rfl,iK⟩,cq,cq,tt⟩ ⟨⟨λ_ _=>rfl,.inr ⟨rfl,3,_,rfl,by decide⟩⟩,tt⟩};rintro k hk;have a3:=yC p s (bJ p s g) k;refine sq (sq (rg [] rfl ?_));refine cd rfl (λj=>?_) (λj=>?_);{(have f:k<(bJ p s g).cases.length:=by simp [-List.getD_eq_getElem?_getD]at j;omega);have a4:=o.2.case (aA (bJ p s g) k) (by unfold aA;rw [aae,Y0 f];exact acr _);have n:=a4.chan;refine sk (sq (bk (sq (rgs [] rfl ?_ ?_))));{exact au};refine sq (wQ [(.s 11 0,1)] [(3,.rp 26 (aj p)),(4,.rp 62 (encS s)),(7,.own (.s 83 0) (fU p s (bJ p s g) k).length 0 (fU p s (bJ p s g) k).length none),(9,.rp 103 (gB (bJ p s g))),(10,.int k),(11,.rp 215 (pz (aA (bJ p s g) k)))] [(.s 83 0,uG 3 .i64 (fU p s (bJ p s g) k))] ⟨obs rfl,tt⟩ ?_);refine rgs [CG.pure (.bool (jV p s (aA (bJ p s g) k).chan)),CG.pure (.bool (Cj s (aA (bJ p s g) k).chan))] rfl ?_ ?_;{have i:=JF p s (aA (bJ p s g) k).chan n a2 (Ud h.prog n);have a9:=Cb s (aA (bJ p s g) k).chan (by unfold aZ at n;omega);exact au};refine cd rfl (λc=>?_) (λc=>?_);{(have e:wZ p s (aA (bJ p s g) k)=true:=by simp only [fG,band]at c;exact c);refine rgs [] rfl ?_ ?_;{have v:(T 3).bytes=8:=rfl;exact au};refine rg [] rfl ⟨k+1,?_,?_,?_⟩;{exact f};{refine eX ⟨cq,cq,⟨rfl,_,rfl,ah (by rw [fU,kL,aa2 e,dA])⟩,cq,cq,tt⟩ ⟨sO rfl rfl (by rw [fU,kL,aa2 e,dA]) rfl rfl (by rw [fU,kL,aa2 e];exact app1 (z:=(T 3).zero) rfl (λq i=>rfl)),tt⟩};(try simp only []);first | omega | grind};(have e:wZ p s (aA (bJ p s g) k)=false:=by simp only [fG,band]at c;exact c);(have r:fU p s (bJ p s g) (k+1)=fU p s (bJ p s g) k:=by rw [fU,kL,xw (by rw [e];decide)]);refine sk (rg [] rfl ?_);refine ⟨k+1,?_,?_,?_⟩;{exact f};{refine eX ⟨cq,cq,⟨rfl,_,rfl,ah (by rw [r])⟩,cq,cq,tt⟩ ⟨sO rfl rfl (by rw [r]) rfl rfl (λq i=>by rw [r]),tt⟩};(try simp only []);first | omega | grind};(have f:k=(bJ p s g).cases.length:=by simp [-List.getD_eq_getElem?_getD]at j;omega);subst f;obtain ⟨L,hL⟩:∃ L,fU p s (bJ p s g) (bJ p s g).cases.length=L:=⟨_,rfl⟩;(have u:iR p s g=kL L (bJ p s g).cases.length (L.length==0&&(bJ p s g).els != -1):=by rw [iR,xw (by simp [b]),hL]);(have r:(L.length==0&&(bJ p s g).els != -1)=(bif ((L.length:Int)==0)then (bJ p s g).els != -1 else false):=by rw [band];congr 1;rw [acs];simp);rw [hL]at a3 ⊢;refine xt (sq (sq (rg [] rfl ?_)));refine cd rfl (λd=>?_) (λd=>?_);{(have e:iR p s g=L++[((bJ p s g).cases.length:Int)]:=by rw [u,r,kL,aa2 d]);(have a0:L=[]:=by rw [band]at d;(have:(L.length:Int)=0:=by simpa using (Bool.and_eq_true_iff.1 d).1);exact List.length_eq_zero_iff.1 (by omega));subst a0;refine rgs [] rfl ?_ ?_;{have v:(T 3).bytes=8:=rfl;exact au};refine sg rfl (rX ?_);rw [e];refine aJ hT [(.s 83 0,1)] (ts:=[(6,ints false [((bJ p s g).cases.length:Int)])]) (l:=[ints false [((bJ p s g).cases.length:Int)]]) ⟨⟨_,rfl,abd _⟩,tt⟩ ⟨⟨rfl,_,rfl,?_⟩,tt⟩ trivial rfl rfl rfl;exact iw rfl rfl rfl (λh=>by cases h) (by simp [dW,aS]) (λq i=>by obtain rfl:q=0:=Nat.lt_one_iff.1 i;exact ⟨rfl,vU.refl _⟩)};(have e:iR p s g=L:=by rw [u,r,kL,xw (by rw [d];decide)]);refine sk (sq (rg [] rfl ?_));refine rX ?_;rw [e];refine aJ hT [(.s 83 0,L.length)] (ts:=[(6,ints false L)]) (l:=[ints false L]) ⟨⟨_,rfl,abd _⟩,tt⟩ ⟨⟨rfl,_,rfl,?_⟩,tt⟩ trivial rfl rfl rfl;exact iw rfl rfl rfl (λh=>by cases h) (by simp [dW,aS]) (λq i=>by rw [ada];exact ⟨rfl,vU.refl _⟩)
def Ol (p:ak) (s:cZ):Nat->List bF
 | 0=>[]
 | k+1=>Ol p s k++(lU p s k).map λa=>⟨(k:Int),a⟩
theorem Qa {p:ak} {s:cZ} {g:Int} (a:oh s) (b:dF p s):(lU p s g).length<=5:=by
 unfold lU;split
 ·rename_i h;exact I7 (Gp a b h)
 simp
theorem Tc {p:ak} {s:cZ} (a:oh s) (b:dF p s):∀ k,(Ol p s k).length<=5*k
 | 0=>abd _
 | k+1=>by have c:=Tc a b k;have d:=Qa (g:=k) a b;rw [Ol,adC,ad5];omega
theorem aar {p:ak} {s:cZ} (a:dF p s) {k:Nat} (hk:k<6):wP s k=mG (s.gos.getD k go0):=by
 unfold wP;rw [show decide (0<=(k:Int))=true from adx (by omega),adZ];by_cases h:(k:Int)<s.count
 ·rw [adx h,adZ];rfl
 rw [acB h,aes,(a.2.2.2.2.1 k hk).2 (by omega)];rfl
theorem Oj {p:ak} {s:cZ} (a:dF p s):∀ k,k<=6->Ol p s k=(lu s k).flatMap (yL p s)
 | 0,_=>rfl
 | k+1,h=>by rw [Ol,Oj a k (by omega),lu,ad2,lU,aar a (by omega)];congr 1;split;{simp [yL]};rfl
theorem Dh {p:ak} {s:cZ} (a:dF p s):∀ j,s.count.toNat+j<=6->lu s (s.count.toNat+j)=lu s s.count.toNat
 | 0,_=>rfl
 | j+1,h=>by have hc:=a.2.1;rw [<- adV,lu,Dh a j (by omega),(a.2.2.2.2.1 (s.count.toNat+j) (by omega)).2 (by omega),xw (by decide),adY]
theorem Z8 {p:ak} {s:cZ} (a:dF p s):Ol p s s.count.toNat=aF p s:=by
 have hc:=a.2.1;rw [Oj a _ (by omega),aF,aa2 (by rw [mM,xw (by rw [a.1];decide),xw (λh=>h a)]),<- Dh a (6 - s.count.toNat) (by omega),show s.count.toNat+(6 - s.count.toNat)=6 by omega]
theorem UQ (p:ak) (s:cZ) (n:oh s) (o:dF p s\/s=st0):AC Tryz.prog T aH 72 [aj p,encS s] [] (dB (aF p s)) []:=by
 refine aX Tryz.func72 ?_;refine sg rfl (sq ?_);refine WP.ent (st':=aN [(2,.rp 26 (aj p)),(3,.rp 62 (encS s))] []) (em [(.s 2 0,1),(.s 3 0,1)] ⟨sF,sF,tt⟩ ⟨rq,rq,tt⟩ trivial) ?_;refine rg [] rfl (sq (sq (rg [] rfl ?_)));refine bk (WP.loop (α:=Nat) (λk=>aN [(2,.rp 26 (aj p)),(3,.rp 62 (encS s)),(5,.own (.s 33 0) (Ol p s k).length 0 (Ol p s k).length none),(6,.int k)] [(.s 33 0,dn 122 aT dG (Ol p s k))]) (λk=>k<=s.count.toNat) (λk=>s.count.toNat - k) ?_ ?_)
 ·refine ⟨0,?_,?_⟩;{exact abq _};refine eX ⟨cq,cq,⟨rfl,_,rfl,iK⟩,cq,tt⟩ ⟨⟨λ_ _=>rfl,.inr ⟨rfl,122,_,rfl,by decide⟩⟩,tt⟩
 rintro k hk;refine sq (sq (rg [] rfl ?_));refine cd rfl (λf=>?_) (λf=>?_);{(have c:(k:Int)<s.count:=by simp [-List.getD_eq_getElem?_getD]at f;exact f);(have d:dF p s:=by rcases o with h | h;{exact h};rw [h]at c;exact absurd c (by show ¬ (k:Int)<0;omega));have t:=d.2.1;have v:=Tc n d k;have u:=Qa (g:=k) n d;refine sk (sq (bk (sq (rgs [CG.pure (ints false (lU p s k))] rfl ?_ ?_))));{have i:=Oq p s k n d;exact au};refine sg rfl (bk ?_);refine WP.loop (α:=Nat) (λj=>aN [(2,.rp 26 (aj p)),(3,.rp 62 (encS s)),(5,.own (.s 33 0) (Ol p s k++((lU p s k).take j).map λa=>(⟨(k:Int),a⟩:bF)).length 0 (Ol p s k++((lU p s k).take j).map λa=>(⟨(k:Int),a⟩:bF)).length none),(6,.int k),(7,ints false (lU p s k)),(8,.int j)] [(.s 33 0,dn 122 aT dG (Ol p s k++((lU p s k).take j).map λa=>(⟨(k:Int),a⟩:bF)))]) (λj=>j<=(lU p s k).length) (λj=>(lU p s k).length - j) ?_ ?_;{refine ⟨0,?_,?_⟩;{exact abq _};refine eX ⟨cq,cq,⟨rfl,_,rfl,ah (by simp)⟩,cq,cq,cq,tt⟩ ⟨dL (nO _) rfl rfl (by simp) rfl rfl (λq i=>by simp),tt⟩};rintro j x;refine sq (sq (rg [] rfl ?_));refine cd rfl (λm=>?_) (λm=>?_);{(have b:j<(lU p s k).length:=by simp [-List.getD_eq_getElem?_getD]at m;omega);(have e:((lU p s k).take (j+1)).map (λa=>(⟨(k:Int),a⟩:bF))=((lU p s k).take j).map (λa=>(⟨(k:Int),a⟩:bF))++[⟨(k:Int),(lU p s k).getD j 0⟩]:=by rw [aei,Y0 b,List.map_append,aae,Y0 b];rfl);(have w:(Ol p s k++((lU p s k).take j).map λa=>(⟨(k:Int),a⟩:bF)).length<=100:=by rw [adC,ad5,adn];omega);refine sk (sq (bk (rgs [] rfl ?_ ?_)));{have r:(T 122).bytes=16:=rfl;exact au};refine rg [] rfl ⟨j+1,?_,?_,?_⟩;{exact b};{refine eX ⟨cq,cq,⟨rfl,_,rfl,ah (by rw [e,<- adQ,dA])⟩,cq,cq,cq,tt⟩ ⟨dL (nO _) rfl rfl (by rw [e,<- adQ,dA]) rfl rfl (by rw [e,<- adQ];exact DI (z:=(T 122).zero) rfl (bH λq=>by match q with | 0 | 1 | q+2=>rfl) (λq i=>rfl)),tt⟩};(try simp only []);first | omega | grind};(have b:j=(lU p s k).length:=by simp [-List.getD_eq_getElem?_getD]at m;omega);subst b;(have e:Ol p s k++((lU p s k).take (lU p s k).length).map (λa=>(⟨(k:Int),a⟩:bF))=Ol p s (k+1):=by rw [adX,Ol]);rw [e];refine xt (rg [] rfl ?_);refine ⟨k+1,?_,?_,?_⟩;{omega};{refine eX cX ⟨dL (nO _) rfl rfl rfl rfl rfl (λq i=>rfl),tt⟩};(try simp only []);first | omega | grind};(have c:k=s.count.toNat:=by simp [-List.getD_eq_getElem?_getD]at f;omega);subst c;(have e:Ol p s s.count.toNat=aF p s:=by rcases o with h | h;{exact Z8 h};subst h;show []=aF p st0;rw [aF,xw];unfold mM;split;{decide};rw [aa2 (λh=>by have:=h.2.1.1;revert this;decide)];decide);rw [e];refine xt (sq (rg [] rfl ?_));refine rX ?_;refine aJ hT [(.s 33 0,(aF p s).length)] (ts:=[(4,dB (aF p s))]) (l:=[dB (aF p s)]) ⟨⟨_,rfl,abd _⟩,tt⟩ ⟨⟨rfl,_,rfl,?_⟩,tt⟩ trivial rfl rfl rfl;exact iw rfl rfl rfl (λh=>by cases h) (by simp [dW,aS]) (λq i=>by rw [ada];exact ⟨rfl,vU.refl _⟩)
open Go.Proofs Go.Sort
section
variable {α:Type} {f:α->Nat}
theorem EH:∀ {a b:List α},a.Pairwise (λx y=>f x<f y)->b.Pairwise (λx y=>f x<f y)->(∀ x,x∈a↔x∈b)->a=b
 | [],[],_,_,_=>rfl
 | [],y::b,_,_,h=>by have:=(h y).2 (by simp);cases this
 | x::a,[],_,_,h=>by have:=(h x).1 (by simp);cases this
 | x::a,y::b,ha,hb,h=>by rw [List.pairwise_cons]at ha hb;(have e:x=y:=by have c:=(h x).1 (by simp);have d:=(h y).2 (by simp);rw [aeg]at c d;rcases c with c | c;{exact c};rcases d with d | d;{exact d.symm};have:=ha.1 y d;have:=hb.1 x c;omega);subst e;rw [EH ha.2 hb.2 (λz=>?_)];have g:=h z;rw [aeg,aeg]at g;constructor;{intro hm;rcases g.1 (.inr hm)with e | e;{subst e;exact absurd (ha.1 z hm) (Nat.lt_irrefl _)};exact e};intro hm;rcases g.2 (.inr hm)with e | e;{subst e;exact absurd (hb.1 z hm) (Nat.lt_irrefl _)};exact e
variable [DecidableEq α] {d:α}
theorem KA {l:List α} (p:l.Pairwise λx y=>f x<=f y) (q:∀ x∈l,∀ y∈l,f x=f y->x=y):∀ k,k<=l.length->(dd d l k).Pairwise (λx y=>f x<f y) /\ ∀ x,x∈dd d l k↔x∈l.take k
 | 0,_=>⟨List.Pairwise.nil,λx=>by simp [dd]⟩
 | k+1,hk=>by obtain ⟨o,i⟩:=KA p q k (by omega);have b:k<l.length:=hk;(have a:l.getD k d=l[k]:=by simp [aae,b]);(have ht:l.take (k+1)=l.take k++[l.getD k d]:=by rw [aei,Y0 b,a];rfl);rw [dd];split;{rename_i e;refine ⟨o,λx=>?_⟩;rw [i,ht,ae4,List.mem_singleton];refine ⟨.inl,λh=>h.elim id λg=>?_⟩;rw [g,e.2];(have n:k - 1<l.length:=by omega);rw [List.mem_take_iff_getElem];exact ⟨k - 1,by omega,by simp [aae,n]⟩};rename_i e;constructor;{rw [List.pairwise_append];refine ⟨o,List.pairwise_singleton _ _,λx hx y r=>?_⟩;rw [List.mem_singleton]at r;subst r;rw [i,List.mem_take_iff_getElem]at hx;obtain ⟨m,hm,rfl⟩:=hx;have c:=List.pairwise_iff_getElem.1 p;(have j:0<k:=by omega);(have s:l[k - 1]≠l[k]:=by intro g;refine e ⟨j,?_⟩;rw [a,<- g];simp [aae,show k - 1<l.length by omega]);have v:f l[k - 1]<=f l[k]:=c (k - 1) k (by omega) b (by omega);have t:f l[k - 1]≠f l[k]:=λh=>s (q _ (acr _) _ (acr _) h);(have w:f l[m]<=f l[k - 1]:=by by_cases u:m=k - 1;{subst u;exact abd _};exact c m (k - 1) (by omega) (by omega) (by omega));rw [a];omega};intro x;rw [ae4,i,ht,ae4]
end
def jo (x:BT):Nat:=8*x.k.val+x.n.val
theorem key_eq {x y:BT}:jo x=jo y↔x.k=y.k/\x.n=y.n:=by
 have a:=x.n.isLt;have b:=y.n.isLt;unfold jo;rw [<- _root_.Fin.val_inj,<- _root_.Fin.val_inj];omega
theorem Q7 {x y:BT}:jo x<jo y↔(x.k.val<y.k.val\/x.k.val=y.k.val/\x.n.val<y.n.val):=by
 have a:=x.n.isLt;have b:=y.n.isLt;unfold jo;omega
theorem Uy (l:List BT):(jw l).Pairwise λx y=>jo x<=jo y:=by
 refine (Jf Nr l).imp λ{a b} h=>?_;rw [C9]at h;have:=aeO h;rw [<- Q7]at this;omega
theorem AO (l:List BT) (x:BT):x∈jw l↔x∈l:=(Nz Nr l).mem_iff
def jB (x:BT):List BT->List BT
 | []=>[x]
 | y::l=>if jo y=jo x then { y with w:=y.w||x.w}::l else if jo x<jo y then x::y::l else y::jB x l
theorem Ig {x:BT}:∀ {l:List BT},l.Pairwise (λx y=>jo x<jo y)->(∀ y∈l,jo y=jo x->y=x)->(jB x l).Pairwise (λx y=>jo x<jo y) /\ ∀ z,z∈jB x l↔z=x\/z∈l
 | [],_,_=>⟨List.pairwise_singleton _ _,λz=>by simp [jB]⟩
 | y::l,hs,hu=>by rw [List.pairwise_cons]at hs;rw [jB];split;{rename_i e;have b:=hu y ad7 e;(have d:({ y with w:=y.w||x.w}:BT)=x:=by rw [b];cases x;simp);rw [d,<- b];exact ⟨List.pairwise_cons.2 hs,λz=>by simp⟩};rename_i e;split;{rename_i h;refine ⟨List.pairwise_cons.2 ⟨λz a=>?_,List.pairwise_cons.2 hs⟩,λz=>by simp⟩;rcases List.mem_cons.1 a with rfl | a;{exact h};exact Nat.lt_trans h (hs.1 z a)};rename_i h;obtain ⟨f,c⟩:=Ig hs.2 (λz a=>hu z (adK _ a));refine ⟨List.pairwise_cons.2 ⟨λz a=>?_,f⟩,λz=>?_⟩;{rcases (c z).1 a with rfl | a;{omega};exact hs.1 z a};rw [aeg,c,aeg];constructor;{rintro (h | h | h);{exact .inr (.inl h)};{exact .inl h};exact .inr (.inr h)};rintro (h | h | h);{exact .inr (.inl h)};{exact .inl h};exact .inr (.inr h)
theorem Io {r:List BT} (c:∀ x∈r,∀ y∈r,jo x=jo y->x=y):∀ (q l:List BT),(∀ x∈q,x∈r)->(∀ x∈l,x∈r)->l.Pairwise (λx y=>jo x<jo y)->(q.foldl (λl x=>jB x l) l).Pairwise (λx y=>jo x<jo y) /\ ∀ z,z∈q.foldl (λl x=>jB x l) l↔z∈q\/z∈l
 | [],l,_,_,h=>⟨h,λz=>by simp⟩
 | x::q,l,hq,hl,h=>by
  have hx:=hq x ad7;obtain ⟨d,b⟩:=Ig h (λy g=>c y (hl y g) x hx);obtain ⟨e,f⟩:=Io c q (jB x l) (λz a=>hq z (adK _ a)) (λz a=>by
   rcases (b z).1 a with rfl | a
   ·exact hx
   ·exact hl z a) d
  refine ⟨e,λz=>?_⟩;rw [aeX,f,b,aeg];constructor
  ·rintro (h | h | h);{exact .inl (.inr h)};{exact .inl (.inl h)};exact .inr h
  rintro ((h | h) | h);{exact .inr (.inl h)};{exact .inl h};exact .inr (.inr h)
def kuQ (z:BT) (X:List BT):Prop:=(∀ x∈X,∀ y∈X,jo x=jo y->x=y) /\ ∀ x∈X,jo x≠jo z
theorem uZ (k n:Int) (w:Bool):jo (bt k n w)=8*(k.toNat % 8)+n.toNat % 8:=rfl
theorem Md {z x:BT} (h:jo x≠jo z):kuQ z [x]:=⟨λa c b hb _=>by rw [List.mem_singleton]at c hb;rw [c,hb],λa c=>by rw [List.mem_singleton]at c;rw [c];exact h⟩
theorem aax {z:BT}:kuQ z []:=⟨λ_ h=>(nomatch h),λ_ h=>(nomatch h)⟩
theorem Tz {z x y:BT} (f:jo x≠jo z) (g:jo y≠jo z) (d:jo x≠jo y):kuQ z [x,y]:=by
 refine ⟨λa c b hb e=>?_,λa c=>?_⟩
 ·simp only [aeg,List.not_mem_nil,or_false]at c hb;(rcases c with rfl | rfl <;> rcases hb with rfl | rfl);{rfl};{exact absurd e d};{exact absurd e.symm d};rfl
 simp only [aeg,List.not_mem_nil,or_false]at c;rcases c with rfl | rfl;{exact f};exact g
theorem aay {z:BT} {c:Prop} [Decidable c] {a b:List BT} (d:c->kuQ z a) (e:¬ c->kuQ z b):kuQ z (if c then a else b):=by
 by_cases h:c
 ·rw [aa2 h];exact d h
 rw [xw h];exact e h
theorem abK {p:ak} {s:cZ} {g:Int} (h:dZ p s g):∀ x∈iF p s g,∀ y∈iF p s g,jo x=jo y->x=y:=by
 have hg:=h.pos;have i:=h.lt;have hc:=h.valid.2.1;have hk:∀ (k n:Int) (w:Bool),(k=1\/k=2\/k=3\/k=4\/k=6)->jo (bt k n w)≠jo (bt 5 g true):=λk n w hk=>by rw [uZ,uZ];omega
 have f:kuQ (bt 5 g true) ((iF p s g).tail):=by rw [show (iF p s g).tail=_ from rfl];(repeat' first | exact Md (hk _ _ _ (by decide)) | exact aax | refine aay (λe=>?_) (λ_=>?_));{refine ⟨λx hx y a e=>?_,λx hx=>?_⟩;{obtain ⟨c,_,rfl⟩:=List.mem_map.1 hx;obtain ⟨d,_,rfl⟩:=List.mem_map.1 a;have:=(key_eq.1 e).2;show (⟨_,_,_⟩:BT)=⟨_,_,_⟩;congr 1};obtain ⟨c,_,rfl⟩:=List.mem_map.1 hx;exact hk _ _ _ (by decide)};{split;{refine Tz (hk _ _ _ (by decide)) ?_ ?_ <;> rw [uZ,uZ] <;> omega};exact Md (hk _ _ _ (by decide))};split;{rename_i ht;simp only [jL,acf]at ht;refine Tz (hk _ _ _ (by decide)) ?_ ?_ <;> rw [uZ,uZ] <;> omega};exact Md (hk _ _ _ (by decide))
 have e:iF p s g=bt 5 g true::(iF p s g).tail:=rfl;intro x hx y a b;rw [e]at hx a;rcases List.mem_cons.1 hx with rfl | hx
 ·rcases List.mem_cons.1 a with rfl | a;{rfl};exact absurd b.symm (f.2 y a)
 rcases List.mem_cons.1 a with rfl | a;{exact absurd b (f.2 x hx)};exact f.1 x hx y a b
theorem Ql {p:ak} {s:cZ} {g:Int} (h:dZ p s g):dM p s g=(iF p s g).foldl (λl x=>jB x l) []:=by
 have b:=abK h;have a:∀ x∈jw (iF p s g),∀ y∈jw (iF p s g),jo x=jo y->x=y:=λx hx y j=>b x ((AO _ _).1 hx) y ((AO _ _).1 j);obtain ⟨c,e⟩:=KA (d:=jS) (Uy (iF p s g)) a _ (abd _);obtain ⟨f,i⟩:=Io b (iF p s g) [] (λ_ h=>h) (λ_ h=>nomatch h) List.Pairwise.nil;refine EH c f λx=>?_;rw [dM,e,i,adX,AO];simp
abbrev rowA (l:List BT):AV:=rowP 134 fJ jS l
theorem Dl (x:BT):∀ l,(jB x l).length<=l.length+1
 | []=>abd _
 | y::l=>by have:=Dl x l;rw [jB];split;{simp};split;{simp};simp;omega
theorem Z9 (l:List BT) (x:BT) (hl:l.length<=100):AC Tryz.prog T aH 203 [rowA l,.int x.k.val,.int x.n.val,.bool x.w] [] (rowA (jB x l)) []:=by
 refine aX Tryz.func203 ?_;refine WP.rowlen 0 rfl (λa7=>?_);refine sg rfl (sg rfl ?_);refine sg rfl (sq (sq (rg [] rfl ?_)));refine bk (WP.loop (α:=Nat×List BT×Bool) (λ(⟨i,o,d⟩:Nat×List BT×Bool)=>aN [(0,rowA l),(1,.int x.k.val),(2,.int x.n.val),(3,.bool x.w),(9,.own (.s 73 0) o.length 0 o.length none),(10,.bool d),(11,.int i)] [(.s 73 0,dn 134 fJ jS o)]) (λ(⟨i,o,d⟩:Nat×List BT×Bool)=>i<=l.length/\o++(if d then l.drop i else jB x (l.drop i))=jB x l/\o.length<=i+1/\(d=false->o.length<=i)) (λ(⟨i,o,d⟩:Nat×List BT×Bool)=>l.length - i) ?_ ?_)
 ·refine ⟨⟨0,[],false⟩,?_,?_⟩;{exact ⟨abq _,rfl,abq _,λ_=>abq _⟩};refine eX ⟨cq,cq,cq,cq,⟨rfl,_,rfl,iK⟩,cq,cq,tt⟩ ⟨⟨λ_ _=>rfl,.inr ⟨rfl,134,_,rfl,by decide⟩⟩,tt⟩
 rintro ⟨i,o,d⟩ ⟨hi,g,a8,f⟩;refine sq (sq (rg [] rfl ?_));refine cd rfl (λt=>?_) (λt=>?_);{(have a:i<l.length:=by simp [-List.getD_eq_getElem?_getD]at t;omega);obtain ⟨y,hy⟩:∃ y,l.getD i jS=y:=⟨_,rfl⟩;(have hdr:l.drop i=y::l.drop (i+1):=by rw [<- hy,List.drop_eq_getElem_cons a];simp [a]);rw [hdr]at g;have a0:(T 134).bytes=24:=rfl;refine sk (sq (bk (sq (rg [] rfl ?_))));refine sq (sq ?_);refine wE [(0,rowA l),(1,.int x.k.val),(2,.int x.n.val),(3,.bool x.w),(9,.own (.s 73 0) o.length 0 o.length none),(10,.bool d),(11,.int i),(12,.ptr (.s 12 0) 1 0 [])] [(.s 12 0,.cells ⟨134,1,λ_=>fJ y,0⟩),(.s 73 0,dn 134 fJ jS o)] ⟨obs rfl (hg:=q0 (ah ((aG _ _).trans (ac8 fJ hy)))),obs rfl,tt⟩ (rg [] rfl ?_);refine cd rfl (λu=>?_) (λu=>?_);{(have v:d=false/\jo y=jo x:=by rw [key_eq];have c:(bif (bif !d then ((y.k.val:Nat):Int)==x.k.val else false)then ((y.n.val:Nat):Int)==x.n.val else false)=true:=u;cases d with| true=>(cases c)| false=>simp only [band,abf,adk,Bool.not_false,true_and]at c;exact ⟨rfl,_root_.Fin.ext (by omega),_root_.Fin.ext (by omega)⟩);obtain ⟨rfl,hk⟩:=v;rw [show jB x (y::l.drop (i+1))={ y with w:=y.w||x.w}::l.drop (i+1) by rw [jB,aa2 hk]]at g;refine sg rfl (rg [] rfl ?_);refine sq (sq (rg [] rfl ?_));refine cd rfl (λb=>?_) (λb=>?_);{cases b};refine sk (rgs [] rfl ?_ ?_);{exact au};refine rg [] rfl ⟨⟨i+1,o++[{ y with w:=y.w||x.w}],true⟩,?_,?_,?_⟩;{exact ⟨a,by rw [<- g];simp,by rw [dA];have:=f rfl;omega,λh=>nomatch h⟩};{refine eX ⟨cq,cq,cq,cq,⟨rfl,_,rfl,ah (by rw [dA])⟩,cq,cq,tt⟩ ⟨dL (dP _) rfl rfl (by rw [dA]) rfl rfl (DI (z:=(T 134).zero) rfl (bH λq=>by match q with | 0 | 1 | 3=>rfl | 2=>(show AV.bool (bif y.w then true else x.w)=AV.bool (y.w||x.w);rw [fG]) | q+4=>rfl) (λq r=>rfl)),tt⟩};(try simp only []);first | omega | grind};(have v:d=true\/¬ jo y=jo x:=by rw [key_eq];have c:(bif (bif !d then ((y.k.val:Nat):Int)==x.k.val else false)then ((y.n.val:Nat):Int)==x.n.val else false)=false:=u;cases d with| true=>exact .inl rfl| false=>refine .inr λ⟨e1,e2⟩=>?_;rw [e1,e2]at c;simp at c);refine sk (sq (sq (rg [] rfl ?_)));refine cd rfl (λb=>?_) (λb=>?_);{(have j:d=false/\jo x<jo y:=by rw [Q7];have c:(bif !d then (bif decide (((y.k.val:Nat):Int)>x.k.val)then true else (bif ((y.k.val:Nat):Int)==x.k.val then decide (((y.n.val:Nat):Int)>x.n.val)else false))else false)=true:=b;cases d with| true=>(cases c)| false=>simp only [band,fG,abf,adP,adk,acf,Bool.not_false,true_and]at c;exact ⟨rfl,by omega⟩);obtain ⟨rfl,hk⟩:=j;(have a1:¬ jo y=jo x:=by omega);rw [show jB x (y::l.drop (i+1))=x::y::l.drop (i+1) by rw [jB,xw a1,aa2 hk]]at g;refine sq (rgs [] rfl ?_ ?_);{exact au};refine rg [] rfl (rgs [] rfl ?_ ?_);{exact au};refine rg [] rfl ⟨⟨i+1,o++[x]++[y],true⟩,?_,?_,?_⟩;{exact ⟨a,by rw [<- g];simp,by rw [dA,dA];have:=f rfl;omega,λh=>nomatch h⟩};{refine eX ⟨cq,cq,cq,cq,⟨rfl,_,rfl,ah (by rw [dA,dA])⟩,cq,cq,tt⟩ ⟨dL (dP _) rfl rfl (by rw [dA,dA]) rfl rfl (DI (l:=o++[x]) (z:=(T 134).zero) (by rw [dA]) rfl (DI (z:=(T 134).zero) rfl (bH λq=>by match q with | 0 | 1 | 2 | q+3=>rfl) (λq r=>rfl))),tt⟩};(try simp only []);first | omega | grind};(have j:d=true\/¬ jo x<jo y:=by rw [Q7];have c:(bif !d then (bif decide (((y.k.val:Nat):Int)>x.k.val)then true else (bif ((y.k.val:Nat):Int)==x.k.val then decide (((y.n.val:Nat):Int)>x.n.val)else false))else false)=false:=b;cases d with| true=>exact .inl rfl| false=>refine .inr λe=>?_;simp only [band,fG,Bool.not_false,adZ]at c;simp at c;omega);refine sk (rgs [] rfl ?_ ?_);{exact au};refine rg [] rfl ⟨⟨i+1,o++[y],d⟩,?_,?_,?_⟩;{refine ⟨a,?_,by rw [dA];omega,λh=>by rw [dA];have:=f h;omega⟩;rw [<- g];cases d with| true=>simp| false=>have h1:=v.resolve_left (by decide);have h2:=j.resolve_left (by decide);rw [show jB x (y::l.drop (i+1))=y::jB x (l.drop (i+1)) by rw [jB,xw h1,xw h2]];simp};{refine eX ⟨cq,cq,cq,cq,⟨rfl,_,rfl,ah (by rw [dA])⟩,cq,cq,tt⟩ ⟨dL (dP _) rfl rfl (by rw [dA]) rfl rfl (DI (z:=(T 134).zero) rfl rfl (λq r=>rfl)),tt⟩};(try simp only []);first | omega | grind};(have a:i=l.length:=by simp [-List.getD_eq_getElem?_getD]at t;omega);subst a;rw [List.drop_length]at g;have a0:(T 134).bytes=24:=rfl;refine xt (sq (sq (rg [] rfl ?_)));refine cd rfl (λm=>?_) (λm=>?_);{(have hd:d=false:=by simpa using m);subst hd;have p:o++[x]=jB x l:=g;refine rgs [] rfl ?_ ?_;{exact au};refine sq (wT [(9,.own (.s 73 0) (o++[x]).length 0 (o++[x]).length none)] [(.s 73 0,dn 134 fJ jS (o++[x]))] ⟨⟨rfl,_,rfl,ah (by rw [dA])⟩,tt⟩ ⟨dL (dP _) rfl rfl (by rw [dA]) rfl rfl (DI (z:=(T 134).zero) rfl (bH λq=>by match q with | 0 | 1 | 2 | q+3=>rfl) (λq r=>rfl)),tt⟩ ?_);refine rg [] rfl (rX ?_);rw [<- p];refine aJ hT [(.s 73 0,(o++[x]).length)] (ts:=[(8,rowA (o++[x]))]) (l:=[rowA (o++[x])]) ⟨⟨_,rfl,abd _⟩,tt⟩ ⟨⟨rfl,_,rfl,?_⟩,tt⟩ trivial rfl rfl rfl;exact iw rfl rfl rfl (λh=>by cases h) (by simp [dW,aS]) (λq r=>by rw [ada];exact ⟨rfl,vU.refl _⟩)};(have hd:d=true:=by simpa using m);subst hd;(have p:o=jB x l:=by rw [<- g];simp);refine sk (sq (rg [] rfl ?_));refine rX ?_;rw [<- p];refine aJ hT [(.s 73 0,o.length)] (ts:=[(8,rowA o)]) (l:=[rowA o]) ⟨⟨_,rfl,abd _⟩,tt⟩ ⟨⟨rfl,_,rfl,?_⟩,tt⟩ trivial rfl rfl rfl;exact iw rfl rfl rfl (λh=>by cases h) (by simp [dW,aS]) (λq r=>by rw [ada];exact ⟨rfl,vU.refl _⟩)
theorem lY (l:List BT) {k n:Int} (w:Bool) (hl:l.length<=100) (hk:0<=k/\k<8) (hn:0<=n/\n<8):AC Tryz.prog T aH 203 [rowA l,.int k,.int n,.bool w] [] (rowA (jB (bt k n w) l)) []:=by
 have h:=Z9 l (bt k n w) hl;have a:(((bt k n w).k.val:Nat):Int)=k:=by show ((k.toNat % 8:Nat):Int)=k;omega
 have b:(((bt k n w).n.val:Nat):Int)=n:=by show ((n.toNat % 8:Nat):Int)=n;omega
 rw [a,b]at h;exact h
theorem XO {k n:Int} (w:Bool) (hk:0<=k/\k<8) (hn:0<=n/\n<8):AC Tryz.prog T aH 203 [.v (.slice none 0 0),.int k,.int n,.bool w] [] (rowA [bt k n w]) []:=by
 refine AC.args hT (lY [] w (by decide) hk hn) rfl (λi a c b hc=>?_);match i,b,hc with| 0,b,hc=>cases b;cases hc;exact eP (by decide)| 1,b,hc=>cases b;cases hc;exact ah rfl| 2,b,hc=>cases b;cases hc;exact ah rfl| 3,b,hc=>cases b;cases hc;exact ah rfl
def Lr (p:ak) (s:cZ) (g:Int) (k:Nat):List BT:=(jX ((bJ p s g).cases.take k)).foldl (λl x=>jB x l) [bt 5 g true]
theorem Pe:∀ (q l:List BT),(q.foldl (λl x=>jB x l) l).length<=q.length+l.length
 | [],l=>by simp
 | x::q,l=>by have a:=Pe q (jB x l);have b:=Dl x l;rw [aeX,ad4];omega
theorem Xj (p:ak) (s:cZ) (g:Int) (k:Nat):(Lr p s g k).length<=k+1:=by
 have:=Pe (jX ((bJ p s g).cases.take k)) [bt 5 g true];rw [jX,ad5,adn]at this;unfold Lr jX;simp at this ⊢;omega
theorem UF {p:ak} {s:cZ} {g:Int} {k:Nat} (hk:k<(bJ p s g).cases.length):Lr p s g (k+1)=jB (bt 3 (aA (bJ p s g) k).chan true) (Lr p s g k):=by
 rw [Lr,<- Fe hk,List.foldl_append];rfl
theorem JE (p:ak) (s:cZ) (g:Int) (h:dZ p s g):AC Tryz.prog T aH 140 [aj p,encS s,.int g] [] (rowA (dM p s g)) []:=by
 refine aX Tryz.func140 ?_;have h6:=h.pos;have d3:=h.prog.chans;have d4:=h.valid.2.1;have o:=h.rng;have c4:=h.at;have m:(insOf p (goI s g)).a=(aU p s g).a/\(insOf p (goI s g)).b=(aU p s g).b:=by unfold aU;split <;> exact ⟨rfl,rfl⟩
 have i:=Ql h;refine sg rfl (sq ?_);refine WP.ent (st':=aN [(3,.rp 26 (aj p)),(4,.rp 62 (encS s)),(2,.int g)] []) (em [(.s 3 0,1),(.s 4 0,1)] ⟨sF,sF,tt⟩ ⟨rq,rq,cq,tt⟩ trivial) ?_;refine rgs [CG.pure (aQ (insOf p (goI s g)))] rfl ?_ ?_
 ·have q:=wu p s g h;exact au
 refine sq (WP.ent (st':=aN [(7,.rp 120 (aQ (insOf p (goI s g)))),(2,.int g),(3,.rp 26 (aj p)),(4,.rp 62 (encS s))] []) (em [(.s 7 0,1)] ⟨sF,tt⟩ ⟨rq,cq,cq,cq,tt⟩ trivial) ?_);refine rgs [CG.pure (rowA [bt 5 g true])] rfl ?_ ?_
 ·have q:=XO (k:=5) (n:=g) true (by decide) (by omega);exact au
 refine WP.seqJ (α:=Unit) (λ_=>aN [(8,rowA (dM p s g))] []) (λ_=>True) ?_ ?_
 ·refine sq (rgs [CG.pure (.int (aU p s g).op)] rfl ?_ ?_);{have q:=Eb p s g h;exact au};refine bk (sq (rg [] rfl ?_));refine cd rfl (λh4=>?_) (λh4=>?_);{(have e:(aU p s g).op=50:=by simpa using h4);have f:=o.1 (by omega);(have c:iF p s g=[bt 5 g true,bt 1 (aU p s g).b false]:=by rw [iF,e];rfl);rw [<- m.2]at f c;refine rgs [CG.pure (rowA (jB (bt 1 (insOf p (goI s g)).b false) [bt 5 g true]))] rfl ?_ ?_;{have q:=lY [bt 5 g true] (k:=1) (n:=(insOf p (goI s g)).b) false (by simp) (by decide) f;exact au};refine ⟨(),?_,?_⟩;{trivial};refine eX ⟨⟨rfl,_,rfl,ah (by rw [i,c];rfl)⟩,tt⟩ trivial};(have n50:(aU p s g).op≠50:=by simpa using h4);refine sg rfl (cd rfl (λh6=>?_) (λh6=>?_));{(have e:(aU p s g).op=54:=by simpa using h6);have f:=o.2 (by omega);(have c:iF p s g=[bt 5 g true,bt 1 (aU p s g).a false]:=by rw [iF,e];rfl);rw [<- m.1]at f c;refine rgs [CG.pure (rowA (jB (bt 1 (insOf p (goI s g)).a false) [bt 5 g true]))] rfl ?_ ?_;{have q:=lY [bt 5 g true] (k:=1) (n:=(insOf p (goI s g)).a) false (by simp) (by decide) f;exact au};refine ⟨(),?_,?_⟩;{trivial};refine eX ⟨⟨rfl,_,rfl,ah (by rw [i,c];rfl)⟩,tt⟩ trivial};(have n54:(aU p s g).op≠54:=by simpa using h6);refine sg rfl (cd rfl (λh8=>?_) (λh8=>?_));{(have e:(aU p s g).op=51:=by simpa using h8);have f:=o.2 (by omega);(have c:iF p s g=[bt 5 g true,bt 1 (aU p s g).a true]:=by rw [iF,e];rfl);rw [<- m.1]at f c;refine rgs [CG.pure (rowA (jB (bt 1 (insOf p (goI s g)).a true) [bt 5 g true]))] rfl ?_ ?_;{have q:=lY [bt 5 g true] (k:=1) (n:=(insOf p (goI s g)).a) true (by simp) (by decide) f;exact au};refine ⟨(),?_,?_⟩;{trivial};refine eX ⟨⟨rfl,_,rfl,ah (by rw [i,c];rfl)⟩,tt⟩ trivial};(have n51:(aU p s g).op≠51:=by simpa using h8);refine WP.seqJ (α:=Bool) (λd=>aN [(2,.int g),(3,.rp 26 (aj p)),(4,.rp 62 (encS s)),(7,.rp 120 (aQ (insOf p (goI s g)))),(8,rowA [bt 5 g true]),(21,.int (aU p s g).op),(40,.bool d)] []) (λd=>d=decide ((aU p s g).op=52\/(aU p s g).op=53)) ?_ ?_;{refine sg rfl (cd rfl (λv=>?_) (λv=>?_));{(have e:(aU p s g).op=52:=by simpa using v);refine sk ⟨((aU p s g).op==52),?_,?_⟩;{rw [e];rfl};refine eX cX trivial};(have n52:(aU p s g).op≠52:=by simpa using v);refine rg [] rfl ⟨((aU p s g).op==53),?_,?_⟩;{rw [acs];simp;omega};refine eX cX trivial};rintro d hd;refine cd rfl (λw=>?_) (λw=>?_);{(have e:(aU p s g).op=52\/(aU p s g).op=53:=by rw [w]at hd;exact aep hd.symm);have f:=o.1 (by omega);(have c:iF p s g=[bt 5 g true,bt 1 (aU p s g).b true]:=by rcases e with e | e <;> (rw [iF,e];rfl));rw [<- m.2]at f c;refine rgs [CG.pure (rowA (jB (bt 1 (insOf p (goI s g)).b true) [bt 5 g true]))] rfl ?_ ?_;{have q:=lY [bt 5 g true] (k:=1) (n:=(insOf p (goI s g)).b) true (by simp) (by decide) f;exact au};refine ⟨(),?_,?_⟩;{trivial};refine eX ⟨⟨rfl,_,rfl,ah (by rw [i,c];rfl)⟩,tt⟩ trivial};(have d0:¬ ((aU p s g).op=52\/(aU p s g).op=53):=by rw [w]at hd;exact aeO hd.symm);refine WP.seqJ (α:=Bool) (λd=>aN [(2,.int g),(3,.rp 26 (aj p)),(4,.rp 62 (encS s)),(7,.rp 120 (aQ (insOf p (goI s g)))),(8,rowA [bt 5 g true]),(21,.int (aU p s g).op),(47,.bool d)] []) (λd=>d=decide ((aU p s g).op=55\/(aU p s g).op=56)) ?_ ?_;{refine sg rfl (cd rfl (λx=>?_) (λx=>?_));{(have e:(aU p s g).op=55:=by simpa using x);refine sk ⟨((aU p s g).op==55),?_,?_⟩;{rw [e];rfl};refine eX cX trivial};(have n55:(aU p s g).op≠55:=by simpa using x);refine rg [] rfl ⟨((aU p s g).op==56),?_,?_⟩;{rw [acs];simp;omega};refine eX cX trivial};rintro d hd;refine cd rfl (λy=>?_) (λy=>?_);{(have e:(aU p s g).op=55\/(aU p s g).op=56:=by rw [y]at hd;exact aep hd.symm);have f:=o.2 (by omega);(have c:iF p s g=[bt 5 g true,bt 2 (aU p s g).a true]:=by rcases e with e | e <;> (rw [iF,e];rfl));rw [<- m.1]at f c;refine rgs [CG.pure (rowA (jB (bt 2 (insOf p (goI s g)).a true) [bt 5 g true]))] rfl ?_ ?_;{have q:=lY [bt 5 g true] (k:=2) (n:=(insOf p (goI s g)).a) true (by simp) (by decide) f;exact au};refine ⟨(),?_,?_⟩;{trivial};refine eX ⟨⟨rfl,_,rfl,ah (by rw [i,c];rfl)⟩,tt⟩ trivial};(have d1:¬ ((aU p s g).op=55\/(aU p s g).op=56):=by rw [y]at hd;exact aeO hd.symm);refine sg rfl (cd rfl (λz=>?_) (λz=>?_));{(have e:(aU p s g).op=57:=by simpa using z);have f:=o.1 (by omega);(have c:iF p s g=[bt 5 g true,bt 2 (aU p s g).b true]:=by rw [iF,e];rfl);rw [<- m.2]at f c;refine rgs [CG.pure (rowA (jB (bt 2 (insOf p (goI s g)).b true) [bt 5 g true]))] rfl ?_ ?_;{have q:=lY [bt 5 g true] (k:=2) (n:=(insOf p (goI s g)).b) true (by simp) (by decide) f;exact au};refine ⟨(),?_,?_⟩;{trivial};refine eX ⟨⟨rfl,_,rfl,ah (by rw [i,c];rfl)⟩,tt⟩ trivial};(have n57:(aU p s g).op≠57:=by simpa using z);refine WP.seqJ (α:=Bool) (λd=>aN [(2,.int g),(3,.rp 26 (aj p)),(4,.rp 62 (encS s)),(7,.rp 120 (aQ (insOf p (goI s g)))),(8,rowA [bt 5 g true]),(21,.int (aU p s g).op),(60,.bool d)] []) (λd=>d=decide ((aU p s g).op=58\/(aU p s g).op=60\/(aU p s g).op=66)) ?_ ?_;{refine sg rfl (cd rfl (λa0=>?_) (λa0=>?_));{(have e:(aU p s g).op=58:=by simpa using a0);refine sk ⟨((aU p s g).op==58),?_,?_⟩;{rw [e];rfl};refine eX cX trivial};(have n58:(aU p s g).op≠58:=by simpa using a0);refine sg rfl (cd rfl (λa1=>?_) (λa1=>?_));{(have e:(aU p s g).op=60:=by simpa using a1);refine sk ⟨((aU p s g).op==60),?_,?_⟩;{rw [e];rfl};refine eX cX trivial};(have n60:(aU p s g).op≠60:=by simpa using a1);refine rg [] rfl ⟨((aU p s g).op==66),?_,?_⟩;{rw [acs];simp;omega};refine eX cX trivial};rintro d hd;refine cd rfl (λa2=>?_) (λa2=>?_);{(have e:(aU p s g).op=58\/(aU p s g).op=60\/(aU p s g).op=66:=by rw [a2]at hd;exact aep hd.symm);have f:=o.2 (by omega);(have c:iF p s g=[bt 5 g true,bt 3 (aU p s g).a true]:=by rcases e with e | e | e <;> (rw [iF,e];rfl));rw [<- m.1]at f c;refine rgs [CG.pure (rowA (jB (bt 3 (insOf p (goI s g)).a true) [bt 5 g true]))] rfl ?_ ?_;{have q:=lY [bt 5 g true] (k:=3) (n:=(insOf p (goI s g)).a) true (by simp) (by decide) f;exact au};refine ⟨(),?_,?_⟩;{trivial};refine eX ⟨⟨rfl,_,rfl,ah (by rw [i,c];rfl)⟩,tt⟩ trivial};(have d2:¬ ((aU p s g).op=58\/(aU p s g).op=60\/(aU p s g).op=66):=by rw [a2]at hd;exact aeO hd.symm);refine sg rfl (cd rfl (λa3=>?_) (λa3=>?_));{(have e:(aU p s g).op=59:=by simpa using a3);have f:=o.1 (by omega);(have c:iF p s g=[bt 5 g true,bt 3 (aU p s g).b true]:=by rw [iF,e];rfl);rw [<- m.2]at f c;refine rgs [CG.pure (rowA (jB (bt 3 (insOf p (goI s g)).b true) [bt 5 g true]))] rfl ?_ ?_;{have q:=lY [bt 5 g true] (k:=3) (n:=(insOf p (goI s g)).b) true (by simp) (by decide) f;exact au};refine ⟨(),?_,?_⟩;{trivial};refine eX ⟨⟨rfl,_,rfl,ah (by rw [i,c];rfl)⟩,tt⟩ trivial};(have n59:(aU p s g).op≠59:=by simpa using a3);refine sg rfl (cd rfl (λa4=>?_) (λa4=>?_));{(have b5:(aU p s g).op=61:=by simpa using a4);have b3:=h.sel b5;have d5:=b3.2.len;have a9:=b3.1;have c5:=h.fit.2.1;(have c:iF p s g=[bt 5 g true]++jX (bJ p s g).cases:=by rw [iF,b5];rfl);(have c8:(bP p (goI s g)).sels.getD (insOf p (goI s g)).a.toNat qE=bJ p s g:=by rw [m.1]);refine sq (drs [] rfl ?_ ?_);{simp only [aZ,bP,goI]at a9 c5;rw [<- m.1]at a9;simp only [insOf,goI,bP]at a9;exact au};refine sq (wF [(.s 9 0,1)] ⟨sF,tt⟩ [(8,rowA [bt 5 g true]),(9,.rp 103 (gB (bJ p s g)))] [] ⟨cq,⟨rfl,_,rfl,bM rfl rfl (by decide) rfl ((aG _ _).trans (ac8 gB c8)) rfl⟩,tt⟩ trivial ?_);refine rg [] rfl (bk ?_);refine WP.loop (α:=Nat) (λk=>aN [(8,rowA (Lr p s g k)),(9,.rp 103 (gB (bJ p s g))),(10,.int k)] []) (λk=>k<=(bJ p s g).cases.length) (λk=>(bJ p s g).cases.length - k) ?_ ?_;{refine ⟨0,?_,?_⟩;{exact abq _};refine eX cX trivial};rintro k hk;refine sq (sq (rg [] rfl ?_));refine cd rfl (λa5=>?_) (λa5=>?_);{(have t:k<(bJ p s g).cases.length:=by simp [-List.getD_eq_getElem?_getD]at a5;omega);have c7:=b3.2.case (aA (bJ p s g) k) (by unfold aA;rw [aae,Y0 t];exact acr _);have c6:=c7.chan;unfold aZ at c6;refine sk (sq (bk (rgs [CG.pure (rowA (jB (bt 3 (aA (bJ p s g) k).chan true) (Lr p s g k)))] rfl ?_ ?_)));{have q:=lY (Lr p s g k) (k:=3) (n:=(aA (bJ p s g) k).chan) true (by have:=Xj p s g k;omega) (by decide) (by omega);exact au};refine rg [] rfl ⟨k+1,?_,?_,?_⟩;{exact t};{refine eX ⟨⟨rfl,_,rfl,ah (by rw [UF t];rfl)⟩,cq,cq,tt⟩ trivial};(try simp only []);first | omega | grind};(have t:k=(bJ p s g).cases.length:=by simp [-List.getD_eq_getElem?_getD]at a5;omega);refine xt ⟨(),?_,?_⟩;{trivial};refine eX ⟨⟨rfl,_,rfl,ah (by rw [i,c,t,Lr,adX];rfl)⟩,tt⟩ trivial};(have n61:(aU p s g).op≠61:=by simpa using a4);refine sg rfl (cd rfl (λa6=>?_) (λa6=>?_));{(have b6:(aU p s g).op=62:=by simpa using a6);refine sq (rgs [CG.pure (rowA (jB (bt 4 0 true) [bt 5 g true]))] rfl ?_ ?_);{have q:=lY [bt 5 g true] (k:=4) (n:=0) true (by simp) (by decide) (by decide);exact au};refine sg rfl (cd rfl (λu=>?_) (λu=>?_));{(have b1:s.count<6:=by simp [-List.getD_eq_getElem?_getD]at u;exact u);(have c:iF p s g=[bt 5 g true,bt 4 0 true,bt 5 s.count true]:=by rw [iF,b6];simp [b1]);refine rgs [CG.pure (rowA (jB (bt 5 s.count true) (jB (bt 4 0 true) [bt 5 g true])))] rfl ?_ ?_;{have q:=lY (jB (bt 4 0 true) [bt 5 g true]) (k:=5) (n:=s.count) true (by have:=Dl (bt 4 0 true) [bt 5 g true];simp at this;omega) (by decide) (by omega);exact au};refine ⟨(),?_,?_⟩;{trivial};refine eX ⟨⟨rfl,_,rfl,ah (by rw [i,c];rfl)⟩,tt⟩ trivial};(have b1:¬ s.count<6:=by simp [-List.getD_eq_getElem?_getD]at u;omega);(have c:iF p s g=[bt 5 g true,bt 4 0 true]:=by rw [iF,b6];simp [b1]);refine sk ⟨(),?_,?_⟩;{trivial};refine eX ⟨⟨rfl,_,rfl,ah (by rw [i,c];rfl)⟩,tt⟩ trivial};(have n62:(aU p s g).op≠62:=by simpa using a6);refine sg rfl (cd rfl (λa7=>?_) (λa7=>?_));{(have b7:(aU p s g).op=63:=by simpa using a7);have f:=c4.join (.inl b7);rw [<- m.1]at f;refine sq (rgs [CG.pure (rowA (jB (bt 4 0 false) [bt 5 g true]))] rfl ?_ ?_);{have q:=lY [bt 5 g true] (k:=4) (n:=0) false (by simp) (by decide) (by decide);exact au};refine sq (drs [] rfl ?_ ?_);{exact au};refine sq ?_;obtain ⟨j,hj⟩:∃ j,bn (goI s g) (insOf p (goI s g)).a=j:=⟨_,rfl⟩;(have c:iF p s g=[bt 5 g true,bt 4 0 false]++(if jL s g j then [bt 5 j false]else []):=by rw [iF,b7,<- hj,m.1];rfl);(have b4:jB (bt 5 g false) (jB (bt 4 0 false) [bt 5 g true])=jB (bt 4 0 false) [bt 5 g true]:=by have k1:jo (bt 5 g true)=40+g.toNat % 8:=uZ 5 g true;have k2:jo (bt 5 g false)=40+g.toNat % 8:=uZ 5 g false;have k3:jo (bt 4 0 false)=32:=rfl;rw [jB,xw (by omega),aa2 (by omega),jB,xw (by omega),xw (by omega),jB,aa2 (by omega)];rfl);refine wT [(8,rowA (jB (bt 4 0 false) [bt 5 g true])),(4,.rp 62 (encS s)),(11,.int j)] [] ⟨cq,cq,⟨rfl,_,rfl,ah (by rw [<- hj])⟩,tt⟩ trivial (rg [] rfl ?_);refine cd rfl (λr=>?_) (λr=>?_);{(have b8:0<=j/\j<s.count:=by simp only [band]at r;simpa using r);(have b0:dM p s g=jB (bt 5 j false) (jB (bt 4 0 false) [bt 5 g true]):=by rw [i,c];by_cases b2:j=g;{rw [xw (by simp [jL,b2]),b2,b4];rfl};rw [aa2 (by simp [jL,b2,b8])];rfl);refine rgs [CG.pure (rowA (jB (bt 5 j false) (jB (bt 4 0 false) [bt 5 g true])))] rfl ?_ ?_;{have q:=lY (jB (bt 4 0 false) [bt 5 g true]) (k:=5) (n:=j) false (by have:=Dl (bt 4 0 false) [bt 5 g true];simp at this;omega) (by decide) (by omega);exact au};refine ⟨(),?_,?_⟩;{trivial};refine eX ⟨⟨rfl,_,rfl,ah (by rw [b0];rfl)⟩,tt⟩ trivial};(have b8:¬ (0<=j/\j<s.count):=by simp only [band]at r;simpa using r);refine sk ⟨(),?_,?_⟩;{trivial};refine eX ⟨⟨rfl,_,rfl,ah (by rw [i,c,xw (by simp [jL];omega)];rfl)⟩,tt⟩ trivial};(have n63:(aU p s g).op≠63:=by simpa using a7);refine sg rfl (cd rfl (λa8=>?_) (λa8=>?_));{(have c0:(aU p s g).op=65:=by simpa using a8);(have c:iF p s g=[bt 5 g true,bt 6 0 true]:=by rw [iF,c0];rfl);refine rgs [CG.pure (rowA (jB (bt 6 0 true) [bt 5 g true]))] rfl ?_ ?_;{have q:=lY [bt 5 g true] (k:=6) (n:=0) true (by simp) (by decide) (by decide);exact au};refine ⟨(),?_,?_⟩;{trivial};refine eX ⟨⟨rfl,_,rfl,ah (by rw [i,c];rfl)⟩,tt⟩ trivial};(have n65:(aU p s g).op≠65:=by simpa using a8);(have c:iF p s g=[bt 5 g true]:=by rw [iF,xw (by omega),xw (by omega),xw (by omega),xw (by omega),xw (by omega),xw (by omega),xw (by omega),xw (by omega),xw (by omega),xw (by omega),xw (by omega),xw (by omega),xw (by omega),xw (by omega),xw (by omega),xw (by omega)];rfl);refine sk ⟨(),?_,?_⟩;{trivial};refine eX ⟨⟨rfl,_,rfl,ah (by rw [i,c];rfl)⟩,tt⟩ trivial
 rintro _ c3;exact sg rfl (WP.ret (aJ hT [] (ts:=[(6,rowA (dM p s g))]) (l:=[rowA (dM p s g)]) trivial ⟨⟨rfl,_,rfl,ah rfl⟩,tt⟩ trivial rfl rfl rfl))
structure RD where
 s:cZ
 val:Int
 why:Int
 to:Int
def eH (d:RD):AV:=bC 301 [encS d.s,.int d.val,.int d.why,.int d.to]
theorem jR {d:RD} {q:List Nat} {y:AV} {s':cZ} (e:(encS d.s).put q y=encS s'):(eH d).put (0::q) y=eH { d with s:=s'}:=(dh (abZ rfl)).trans (ac8 (λz=>bC 301 [z,.int d.val,.int d.why,.int d.to]) e)
theorem mD (d:RD) (x:Int):(eH d).put [1] (.int x)=eH { d with val:=x}:=dh (abZ rfl)
theorem wB (d:RD) (x:Int):(eH d).put [2] (.int x)=eH { d with why:=x}:=dh (abZ rfl)
theorem LG (d:RD) (x:Int):(eH d).put [3] (.int x)=eH { d with to:=x}:=dh (abZ rfl)
abbrev iD (m:PM) (to:Int):RD:=⟨m.s,m.val,0,to⟩
theorem GV (b:Bool):AC Tryz.prog T aH 274 [.bool b] [] (.int (iC b)) []:=by
 refine aX Tryz.func274 ?_;refine sg rfl (sq (sq (rg [] rfl ?_)));refine cd rfl (λa=>?_) (λa=>?_)
 ·refine sg rfl (rX ?_);refine bf hT (by rfl) ?_;simp_all [iC]
 refine sk (sq (rg [] rfl ?_));refine rX ?_;refine bf hT (by rfl) ?_;simp_all [iC]
theorem sJ (m:PM) (h:mX m) (r v:Int) (d:r<8):AC Tryz.prog T aH 273 [encS m.s,.int m.g,.int r,.int v] [] (encS (bU m r v).s) []:=by
 refine aX Tryz.func273 ?_;have hg:=h.g;have c:(aC m).regs.length=8:=gZ h.s _;refine sg rfl (sq (sq (rg [] rfl ?_)));refine cd rfl (λb=>?_) (λb=>?_)
 ·(have a:0<=r:=by simpa using b);refine rgs [] rfl ?_ ?_;{exact au};refine sg rfl (rX ?_);refine aW hT rfl rfl rfl rfl rfl (ah ((aG _ _).trans ?_)) rfl rfl rfl;rw [bU,aa2 a];exact ng (by rw [h.s.gos];omega) (kU v (by show r.toNat<(aC m).regs.length;omega))
 (have a:¬ 0<=r:=by simp at b;omega);refine sk (sq (rg [] rfl ?_));refine rX ?_;refine aW hT rfl rfl rfl rfl rfl (ah ((aG _ _).trans ?_)) rfl rfl rfl;rw [bU,xw a];rfl
theorem He (c x:iU):(eF c).put [] (eF x)=eF x:=aG _ _
def oJ (p:ak) (m:PM) (to c v:Int):RD:=if (bW m.s c).closed=true then ⟨m.s,m.val,4,to⟩else ⟨(iT p m c v).s,v,0,if 0<p.chans.getD c.toNat 0 then to else -1⟩
theorem NW (p:ak) (m:PM) (to c v:Int) (h:mX m) (hc:aZ c p.chans.length) (hp:qJ p) (t:jV p m.s c=true) (hlen:0<=(bW m.s c).len):AC Tryz.prog T aH 255 [aj p,eH (iD m to),.int m.g,.int c,.int v] [] (eH (oJ p m to c v)) []:=by
 refine aX Tryz.func255 ?_;have o:=hp.chans;have n:p.chans.getD c.toNat 0<=4:=(hp.caps _ (by unfold aZ at hc;rw [aae,Y0 (show c.toNat<p.chans.length by omega)];exact acr _)).2;unfold aZ at hc;have q:0<=c/\c<4:=by omega
 have hb:(bW m.s c).buf.length=4:=kK h.s _;have hg:=h.g;have d:c.toNat<m.s.chans.length:=by rw [h.s.chans];omega
 have f:m.g.toNat<m.s.gos.length:=by rw [h.s.gos];omega
 refine sg rfl (sq ?_);refine WP.ent (st':=aN [(5,.rp 26 (aj p)),(2,.int m.g),(3,.int c),(4,.int v),(6,.ptr (.s 6 0) 1 0 []),(10,.ptr (.s 10 0) 1 0 [])] [(.s 6 0,.cells ⟨301,1,λ_=>eH (iD m to),0⟩),(.s 10 0,.cells ⟨301,1,λ_=>(T 301).zero,0⟩)]) (em [(.s 5 0,1)] ⟨sF,tt⟩ ⟨rq,cq,cq,cq,cq,cq,tt⟩ ⟨obs rfl,obs rfl,tt⟩) ?_;refine rgs [] rfl ?_ ?_
 ·exact au
 refine sq (sq ?_);refine wE [(2,.int m.g),(3,.int c),(4,.int v),(5,.rp 26 (aj p)),(6,.ptr (.s 6 0) 1 0 []),(10,.ptr (.s 10 0) 1 0 []),(11,.ptr (.s 11 0) 1 0 [])] [(.s 6 0,.cells ⟨301,1,λ_=>eH (iD m to),0⟩),(.s 10 0,.cells ⟨301,1,λ_=>(T 301).zero,0⟩),(.s 11 0,.cells ⟨56,1,λ_=>eF (bW m.s c),0⟩)] ⟨obs rfl,obs rfl,obs rfl (hg:=q0 (ah (aG _ _))),tt⟩ (rg [] rfl ?_);refine cd rfl (λj=>?_) (λj=>?_)
 ·have b:(bW m.s c).closed=true:=j;refine sg rfl (sg rfl ?_);refine rX ?_;refine aW hT rfl rfl rfl rfl rfl (ah ((aG _ _).trans ?_)) rfl rfl rfl;rw [oJ,aa2 b];exact wB (iD m to) 4
 (have b:¬ (bW m.s c).closed=true:=λe=>by rw [e]at j;cases j);refine sk (sq (sq (rgs [] rfl ?_ ?_)));{exact au};refine cd rfl (λl=>?_) (λl=>?_);{(have a:0<p.chans.getD c.toNat 0:=by simp [-List.getD_eq_getElem?_getD]at l;omega);(have r:(bW m.s c).len<p.chans.getD c.toNat 0:=by have:=t;simp only [jV,adP,abf,acf,adk]at this;rcases this with (i | i) | i;{exact absurd i b};{exact i.2};omega);refine sq (rgs [] rfl ?_ ?_);{exact au};refine rg [] rfl (sq (rgs [] rfl ?_ ?_));{exact au};refine sg rfl (sg rfl ?_);refine rX ?_;refine aW hT rfl rfl rfl rfl rfl (ah ((aG _ _).trans ?_)) rfl rfl rfl;rw [oJ,xw b,aa2 a,iT,xw b,aa2 a];(have k:((eF (bW m.s c)).put [0,(bW m.s c).len.toNat] (.int v)).put [1] (.int (IntKind.i64.wrap ((bW m.s c).len+1)))=eF { oM (bW m.s c) (bW m.s c).len v with len:=(bW m.s c).len+1}:=by rw [wG v (by omega),bK (by omega) (by omega)];exact sZ _ _);show ((eH (iD m to)).put [0,2,c.toNat] (((eF (bW m.s c)).put [0,(bW m.s c).len.toNat] (.int v)).put [1] (.int (IntKind.i64.wrap ((bW m.s c).len+1))))).put [1] (.int v)=_;rw [k,jR (uY d (He _ _)),mD]};(have a:¬ 0<p.chans.getD c.toNat 0:=by simp [-List.getD_eq_getElem?_getD]at l;omega);refine sg rfl (sg rfl ?_);refine sg rfl (sq (rgs [] rfl ?_ ?_));{exact au};refine rg [] rfl (sq (rgs [] rfl ?_ ?_));{exact au};refine sg rfl (sg rfl ?_);refine rX ?_;refine aW hT rfl rfl rfl rfl rfl (ah ((aG _ _).trans ?_)) rfl rfl rfl;rw [oJ,xw b,xw a,iT,xw b,xw a];(have k:(((eF (bW m.s c)).put [3] (.int 1)).put [4] (.int m.g)).put [5] (.int v)=eF { bW m.s c with offer:=1,frm:=m.g,val:=v}:=by rw [jY,wC,mV]);show ((((eH (iD m to)).put [0,3,m.g.toNat,0] (.int 2)).put [3] (.int (-1))).put [0,2,c.toNat] ((((eF (bW m.s c)).put [3] (.int 1)).put [4] (.int m.g)).put [5] (.int v))).put [1] (.int v)=_;rw [k,jR (ng f (gI _ 2)),LG,jR (uY d (He _ _)),mD]
def vI (m:PM) (to c:Int):RD:=if (bW m.s c).closed=true then ⟨m.s,m.val,5,to⟩else iD (oq m c) to
theorem QD (m:PM) (to c:Int) (h:mX m) (hc:0<=c/\c<4):AC Tryz.prog T aH 257 [eH (iD m to),.int c] [] (eH (vI m to c)) []:=by
 refine aX Tryz.func257 ?_;have b:c.toNat<m.s.chans.length:=by rw [h.s.chans];omega
 refine sg rfl (sq (rgs [] rfl ?_ ?_))
 ·exact au
 refine sq (sq ?_);refine wE [(1,.int c),(2,.ptr (.s 2 0) 1 0 []),(4,.ptr (.s 4 0) 1 0 []),(5,.ptr (.s 5 0) 1 0 [])] [(.s 2 0,.cells ⟨301,1,λ_=>eH (iD m to),0⟩),(.s 4 0,.cells ⟨301,1,λ_=>(T 301).zero,0⟩),(.s 5 0,.cells ⟨56,1,λ_=>eF (bW m.s c),0⟩)] ⟨obs rfl,obs rfl,obs rfl (hg:=q0 (ah (aG _ _))),tt⟩ (rg [] rfl ?_);refine cd rfl (λf=>?_) (λf=>?_)
 ·have a:(bW m.s c).closed=true:=f;refine sg rfl (sg rfl ?_);refine rX ?_;refine aW hT rfl rfl rfl rfl rfl (ah ((aG _ _).trans ?_)) rfl rfl rfl;rw [vI,aa2 a];exact wB (iD m to) 5
 (have a:¬ (bW m.s c).closed=true:=λe=>by rw [e]at f;cases f);refine sk (sq (rg [] rfl ?_));refine sq (sq (rg [] rfl ?_));refine cd rfl (λd=>?_) (λd=>?_);{(have g:(bW m.s c).offer=1:=by simp [-List.getD_eq_getElem?_getD]at d;exact d);refine sg rfl (rg [] rfl ?_);refine sq (rgs [] rfl ?_ ?_);{exact au};refine sg rfl (rX ?_);refine aW hT rfl rfl rfl rfl rfl (ah ((aG _ _).trans ?_)) rfl rfl rfl;rw [vI,xw a,oq,xw a,aa2 g];show (eH (iD m to)).put [0,2,c.toNat] ((((eF (bW m.s c)).put [2] (.bool true)).put [3] (.int 3)).put [5] (.int 0))=_;rw [xO,jY,mV,jR (uY b (He _ _))]};(have g:¬ (bW m.s c).offer=1:=by simp [-List.getD_eq_getElem?_getD]at d;exact d);refine sk (sq (rgs [] rfl ?_ ?_));{exact au};refine sg rfl (rX ?_);refine aW hT rfl rfl rfl rfl rfl (ah ((aG _ _).trans ?_)) rfl rfl rfl;rw [vI,xw a,oq,xw a,xw g];show (eH (iD m to)).put [0,2,c.toNat] ((eF (bW m.s c)).put [2] (.bool true))=_;rw [xO,jR (uY b (He _ _))]
def xI (m:PM) (to c:Int):RD:={ iD (lH m c) to with why:=if (bW m.s c).offer=3 then 4 else 0}
theorem UL (m:PM) (to c:Int) (h:mX m) (hc:0<=c/\c<4):AC Tryz.prog T aH 254 [eH (iD m to),.int m.g,.int c] [] (eH (xI m to c)) []:=by
 refine aX Tryz.func254 ?_;have a:c.toNat<m.s.chans.length:=by rw [h.s.chans];omega
 have hg:=h.g;have b:m.g.toNat<m.s.gos.length:=by rw [h.s.gos];omega
 refine sg rfl (sq (rgs [] rfl ?_ ?_))
 ·exact au
 refine sq (sq ?_);refine wE [(1,.int m.g),(2,.int c),(3,.ptr (.s 3 0) 1 0 []),(6,.ptr (.s 6 0) 1 0 []),(7,.ptr (.s 7 0) 1 0 [])] [(.s 3 0,.cells ⟨301,1,λ_=>eH (iD m to),0⟩),(.s 6 0,.cells ⟨301,1,λ_=>(T 301).zero,0⟩),(.s 7 0,.cells ⟨56,1,λ_=>eF (bW m.s c),0⟩)] ⟨obs rfl,obs rfl,obs rfl (hg:=q0 (ah (aG _ _))),tt⟩ (rg [] rfl ?_);refine cd rfl (λd=>?_) (λd=>?_)
 ·(have e:(bW m.s c).offer=3:=by simp [-List.getD_eq_getElem?_getD]at d;exact d);refine rg [] rfl (sg rfl ?_);refine sg rfl (sg rfl ?_);refine sq (rgs [] rfl ?_ ?_);{exact au};refine sq (rgs [] rfl ?_ ?_);{exact au};refine sg rfl (rX ?_);refine aW hT rfl rfl rfl rfl rfl (ah ((aG _ _).trans ?_)) rfl rfl rfl;rw [xI,aa2 e];show (((eH (iD m to)).put [2] (.int 4)).put [0,2,c.toNat] ((((eF (bW m.s c)).put [3] (.int 0)).put [4] (.int 0)).put [5] (.int 0))).put [0,3,m.g.toNat,0] (.int 1)=_;rw [jY,wC,mV,wB,jR (uY a (He _ _)),jR (ng b (gI _ 1))];rfl
 (have e:¬ (bW m.s c).offer=3:=by simp [-List.getD_eq_getElem?_getD]at d;exact d);refine sk (sq (rg [] rfl ?_));refine sg rfl (sg rfl ?_);refine sq (rgs [] rfl ?_ ?_);{exact au};refine sq (rgs [] rfl ?_ ?_);{exact au};refine sg rfl (rX ?_);refine aW hT rfl rfl rfl rfl rfl (ah ((aG _ _).trans ?_)) rfl rfl rfl;rw [xI,xw e];show ((eH (iD m to)).put [0,2,c.toNat] ((((eF (bW m.s c)).put [3] (.int 0)).put [4] (.int 0)).put [5] (.int 0))).put [0,3,m.g.toNat,0] (.int 1)=_;rw [jY,wC,mV,jR (uY a (He _ _)),jR (ng b (gI _ 1))];rfl
theorem Yf (m:PM) (x r v:Int):bU { m with val:=x} r v={ bU m r v with val:=x}:=by unfold bU;split <;> rfl
theorem oQ (m:PM) (r v:Int):(bU m r v).val=m.val:=by unfold bU;split <;> rfl
theorem zu (m:PM) (r v:Int):(bU m r v).g=m.g:=by unfold bU;split <;> rfl
def uJ (l:List Int) (k:Nat):List Int:=(List.range 4).map λi=>if i<k then l.getD (i+1) 0 else l.getD i 0
theorem NI (l:List Int) (k:Nat):(uJ l k).length=4:=by simp [uJ]
theorem ZN (l:List Int) (k:Nat) {i:Nat} (h:i<4):(uJ l k).getD i 0=if i<k then l.getD (i+1) 0 else l.getD i 0:=by
 simp [uJ,h]
theorem abB {l:List Int} (h:l.length=4):uJ l 0=l:=by
 match l,h with| [a,b,c,d],_=>rfl
theorem Xe {l:List Int} {k:Nat} (h:k+1<4):(uJ l k).set k ((uJ l k).getD (k+1) 0)=uJ l (k+1):=by
 rw [ZN l k h,xw (by omega)];refine ae0 (by simp [uJ]) λi a b=>?_;rw [List.getElem_set];simp only [uJ,ae1,aeN];split
 ·subst_vars;rw [aa2 (by omega)]
 by_cases e:i<k;{rw [aa2 e,aa2 (by omega)]};rw [xw e,xw (by omega)]
theorem Xf {l:List Int} (h:l.length=4) {k:Nat} (hk:k<4) (g:∀ i,k<i->i<4->l.getD i 0=0):(uJ l k).set k 0=(jQ l).set k 0:=by
 match l,h with| [a,b,c,d],_=>have j:=g 1;have f:=g 2;have e:=g 3;simp only [List.getD_cons_succ,List.getD_cons_zero]at j f e;(match k,hk with| 0,_=>simp [uJ,jQ,aeh,j (by omega) (by omega),f (by omega) (by omega),e (by omega) (by omega)]| 1,_=>simp [uJ,jQ,aeh,f (by omega) (by omega),e (by omega) (by omega)]| 2,_=>simp [uJ,jQ,aeh,e (by omega) (by omega)]| 3,_=>simp [uJ,jQ,aeh])
def xK (x:iU):iU×Int×Bool :=
 if 0<x.len then ({ x with buf:=(jQ x.buf).set (x.len - 1).toNat 0,len:=x.len - 1},x.buf.getD 0 0,true)else
 if x.offer=1 then ({ x with offer:=2,val:=0},x.val,true)else (x,0,false)
theorem set_self {α:Type} {l:List α} {k:Nat} {d:α} (h:k<l.length):l.set k (l.getD k d)=l:=by
 rw [aae,Y0 h];exact List.set_getElem_self h
theorem S9 {m:PM} {c:Int} (h:c.toNat<m.s.chans.length):dH m c=(cu { m with val:=(xK (bW m.s c)).2.1} c (xK (bW m.s c)).1,(xK (bW m.s c)).2.2):=by
 unfold dH xK;split
 ·rfl
 split
 ·rfl
 show _=((⟨{ m.s with chans:=m.s.chans.set c.toNat (m.s.chans.getD c.toNat BG) },m.g,m.fuel,0,m.over⟩:PM),false);rw [set_self h]
def tY (m:PM) (to c r ok:Int):RD:=iD (bU (bU (dH m c).1 r (dH m c).1.val) ok (iC (dH m c).2)) to
theorem NZ (m:PM) (to c r ok:Int) (h:mX m) (hc:0<=c/\c<4) (hl:0<=(bW m.s c).len/\(bW m.s c).len<=4) (hz:∀ i:Nat,(bW m.s c).len<=i->i<4->(bW m.s c).buf.getD i 0=0) (hr:r<8) (hk:ok<8):AC Tryz.prog T aH 256 [eH (iD m to),.int m.g,.int c,.int r,.int ok] [] (eH (tY m to c r ok)) []:=by
 refine aX Tryz.func256 ?_;have hb:(bW m.s c).buf.length=4:=kK h.s _;have hg:=h.g;have a:c.toNat<m.s.chans.length:=by rw [h.s.chans];omega
 refine sg rfl (sq (rgs [] rfl ?_ ?_))
 ·exact au
 refine sq ?_;obtain ⟨x,hx⟩:∃ x,bW m.s c=x:=⟨_,rfl⟩;rw [hx]at hb hl hz;have q:tY m to c r ok=iD (bU (bU (cu { m with val:=(xK x).2.1} c (xK x).1) r (xK x).2.1) ok (iC (xK x).2.2)) to:=by rw [tY,S9 a,hx]
 refine wE [(1,.int m.g),(2,.int c),(3,.int r),(4,.int ok),(5,.ptr (.s 5 0) 1 0 []),(10,.ptr (.s 10 0) 1 0 []),(11,.ptr (.s 11 0) 1 0 [])] [(.s 5 0,.cells ⟨301,1,λ_=>eH (iD m to),0⟩),(.s 10 0,.cells ⟨301,1,λ_=>(T 301).zero,0⟩),(.s 11 0,.cells ⟨56,1,λ_=>eF x,0⟩)] ⟨obs rfl,obs rfl,obs rfl (hg:=q0 (ah ((aG _ _).trans (ac8 eF hx)))),tt⟩ (rg [] rfl ?_);refine sg rfl (WP.seqJ (α:=Unit) (λ_=>aN [(1,.int m.g),(2,.int c),(3,.int r),(4,.int ok),(5,.ptr (.s 5 0) 1 0 []),(10,.ptr (.s 10 0) 1 0 []),(11,.ptr (.s 11 0) 1 0 []),(12,.int (xK x).2.1),(13,.bool (xK x).2.2)] [(.s 5 0,.cells ⟨301,1,λ_=>eH (iD m to),0⟩),(.s 10 0,.cells ⟨301,1,λ_=>(T 301).zero,0⟩),(.s 11 0,.cells ⟨56,1,λ_=>eF (xK x).1,0⟩)]) (λ_=>True) ?_ ?_)
 ·refine sg rfl (cd rfl (λw=>?_) (λw=>?_));{(have l:0<x.len:=by simpa using w);(have b:xK x=({ x with buf:=(jQ x.buf).set (x.len - 1).toNat 0,len:=x.len - 1},x.buf.getD 0 0,true):=by rw [xK,aa2 l]);refine sg rfl (sq (sq (rg [] rfl ?_)));refine bk (WP.loop (α:=Nat) (λk=>aN [(1,.int m.g),(2,.int c),(3,.int r),(4,.int ok),(5,.ptr (.s 5 0) 1 0 []),(10,.ptr (.s 10 0) 1 0 []),(11,.ptr (.s 11 0) 1 0 []),(12,.int (x.buf.getD 0 0)),(13,.bool true),(14,.int k)] [(.s 5 0,.cells ⟨301,1,λ_=>eH (iD m to),0⟩),(.s 10 0,.cells ⟨301,1,λ_=>(T 301).zero,0⟩),(.s 11 0,.cells ⟨56,1,λ_=>eF { x with buf:=uJ x.buf k},0⟩)]) (λk=>(k:Int)<x.len) (λk=>4 - k) ?_ ?_);{refine ⟨0,?_,?_⟩;{exact l};refine eX cX ⟨obs rfl,obs rfl,obs rfl (hg:=q0 (ah (by rw [abB hb]))),tt⟩};rintro k b0;(have j:IntKind.i64.wrap ((k:Int)+1)=((k+1:Nat):Int):=by rw [bK (by omega) (by omega)];omega);refine sq (sq (rg [] rfl ?_));refine cd rfl (λn=>?_) (λn=>?_);{(have f:((k+1:Nat):Int)<x.len:=by rw [j]at n;simpa using n);have a4:=NI x.buf k;refine sk (sq (bk (rgs [] rfl ?_ ?_)));{rw [j];exact au};refine rg [] rfl ⟨k+1,?_,?_,?_⟩;{exact f};{refine eX cX ⟨obs rfl,obs rfl,obs rfl (hg:=q0 (ah ((wG (c:={ x with buf:=uJ x.buf k}) (k:=k) ((uJ x.buf k).getD (IntKind.i64.wrap ((k:Int)+1)).toNat 0) (by show k<(uJ x.buf k).length;omega)).trans (by rw [j,adu];simp only [];rw [Xe (by omega)])))),tt⟩};(try simp only []);first | omega | grind};(have f:(k:Int)=x.len - 1:=by rw [j]at n;simp at n;omega);(have e3:IntKind.i64.wrap (x.len - 1)=(k:Int):=by rw [bK (by omega) (by omega)];omega);have a4:=NI x.buf k;refine xt (sq (rgs [] rfl ?_ ?_));{rw [e3];exact au};(have o:(((eF { x with buf:=uJ x.buf k}).put [0,(IntKind.i64.wrap (x.len - 1)).toNat] (.int 0)).put [1] (.int (IntKind.i64.wrap (x.len - 1))))=eF (xK x).1:=by rw [e3,adu,wG (c:={ x with buf:=uJ x.buf k}) (k:=k) 0 (by show k<(uJ x.buf k).length;omega),sZ,b];simp only [];rw [Xf hb (by omega) (λi t u=>hz i (by omega) u),<- f,adu]);refine rg [] rfl ⟨(),?_,?_⟩;{trivial};refine eX ⟨cq,cq,cq,cq,cq,cq,cq,⟨rfl,_,rfl,ah (by rw [b])⟩,⟨rfl,_,rfl,ah (by rw [b])⟩,tt⟩ ⟨obs rfl,obs rfl,obs rfl (hg:=q0 (ah o)),tt⟩};(have l:¬ 0<x.len:=by simpa using w);refine sg rfl (cd rfl (λd=>?_) (λd=>?_));{(have ho:x.offer=1:=by simpa using d);(have b:xK x=({ x with offer:=2,val:=0},x.val,true):=by rw [xK,xw l,aa2 ho]);refine sg rfl (sg rfl ?_);refine rg [] rfl ⟨(),?_,?_⟩;{trivial};refine eX ⟨cq,cq,cq,cq,cq,cq,cq,⟨rfl,_,rfl,ah (by rw [b])⟩,⟨rfl,_,rfl,ah (by rw [b])⟩,tt⟩ ⟨obs rfl,obs rfl,obs rfl (hg:=q0 (ah (by rw [b];exact (ac8 (λz=>AV.put z [5] (.int 0)) (jY x 2)).trans (mV _ 0)))),tt⟩};(have ho:¬ x.offer=1:=by simpa using d);(have b:xK x=(x,0,false):=by rw [xK,xw l,xw ho]);refine rg [] rfl ⟨(),?_,?_⟩;{trivial};refine eX ⟨cq,cq,cq,cq,cq,cq,cq,⟨rfl,_,rfl,ah (by rw [b])⟩,⟨rfl,_,rfl,ah (by rw [b])⟩,tt⟩ ⟨obs rfl,obs rfl,obs rfl (hg:=q0 (ah (by rw [b]))),tt⟩
 rintro _ a0;refine sq (rgs [] rfl ?_ ?_);{exact au};refine sq ?_;obtain ⟨y,v,op,hy⟩:∃ y v op,xK x=(y,v,op):=⟨_,_,_,rfl⟩;rw [hy]at q ⊢;(have a5:Em y:=by have t:=um h c;rw [S9 a,hx,hy]at t;have u:=kK t.s c.toNat;have h3:bW (cu { m with val:=v} c y).s c=y:=kG a;rw [<- h3];exact u);have p:mX (cu m c y):=vM h c a5;refine wE [(1,.int m.g),(2,.int c),(3,.int r),(4,.int ok),(5,.ptr (.s 5 0) 1 0 []),(10,.ptr (.s 10 0) 1 0 []),(12,.int v),(13,.bool op)] [(.s 5 0,.cells ⟨301,1,λ_=>eH (iD (cu m c y) to),0⟩),(.s 10 0,.cells ⟨301,1,λ_=>(T 301).zero,0⟩)] ⟨obs rfl (hg:=q0 (ah (jR (uY a (He _ _))))),obs rfl,tt⟩ (rgs [CG.pure (encS (bU (cu m c y) r v).s)] rfl ?_ ?_);{have hq:=sJ (cu m c y) p r v hr;exact au};refine sq ?_;have a1:mX (bU (cu m c y) r v):=pq p _ _;refine wE [(1,.int m.g),(4,.int ok),(5,.ptr (.s 5 0) 1 0 []),(10,.ptr (.s 10 0) 1 0 []),(12,.int v),(13,.bool op)] [(.s 5 0,.cells ⟨301,1,λ_=>eH (iD (bU (cu m c y) r v) to),0⟩),(.s 10 0,.cells ⟨301,1,λ_=>(T 301).zero,0⟩)] ⟨obs rfl (hg:=q0 (ah ((jR (aG _ _)).trans (by show eH ⟨_,m.val,0,to⟩=eH ⟨_,(bU (cu m c y) r v).val,0,to⟩;rw [oQ])))),obs rfl,tt⟩ (drs [CG.pure (.int (iC op)),CG.pure (encS (bU (bU (cu m c y) r v) ok (iC op)).s)] rfl ?_ ?_);{have b1:=GV op;have a3:=sJ (bU (cu m c y) r v) a1 ok (iC op) hk;rw [zu]at a3;exact au};refine sg rfl (sg rfl ?_);refine rX ?_;refine aW hT rfl rfl rfl rfl rfl (ah ((aG _ _).trans ?_)) rfl rfl rfl;refine (ac8 (λz=>AV.put z [1] (.int v)) (jR (s':=(bU (bU (cu m c y) r v) ok (iC op)).s) (aG _ _))).trans ?_;rw [mD,q];simp only [];show eH ⟨_,v,0,to⟩=eH ⟨_,(bU (bU (cu { m with val:=v} c y) r v) ok (iC op)).val,0,to⟩;rw [oQ,oQ];have e:=Yf (cu m c y) v r v;have j:=Yf (bU (cu m c y) r v) v ok (iC op);rw [show cu { m with val:=v} c y={ cu m c y with val:=v}from rfl,e,j]
def ru (p:ak) (m:PM) (to:Int) (x:iG):RD:=if m.s.count=6 then ⟨m.s,m.val,8,to⟩else iD (jv p m x).1 to
theorem UN (p:ak) (m:PM) (to:Int) (F:gq) (x:iG) (h:mX m) (hp:qJ p) (hF:xk p F) (hi:DN p F x) (i:x.op=62) (y:0<=m.s.count/\m.s.count<=6):AC Tryz.prog T aH 258 [aj p,eH (iD m to),.int m.g,aQ x] [] (eH (ru p m to x)) []:=by
 refine aX Tryz.func258 ?_;have hr:=hF.regs;have u:=hi.spawn i;have a0:=hp.funcs;simp only [jc,aZ]at u;have e:p.funcs.getD x.b.toNat jI∈p.funcs:=by rw [aae,Y0 (show x.b.toNat<p.funcs.length by omega)];exact acr _
 have a4:=(hp.fn _ e).pars;have t:=(hp.fn _ e).regs;have a3:(qN p x=0/\x.c=0)\/0<qN p x/\0<=x.c/\x.c+qN p x<=F.regs:=by have d:=u.2.2 _ rfl;rcases d with d | d;{exact .inl d};refine .inr ⟨d.1,d.2.1,?_⟩;have w:=d.2.2;rw [bK (by omega) (by omega)]at w;show x.c+(p.funcs.getD x.b.toNat jI).params<=F.regs;omega
 have o:0<=qN p x/\qN p x<=8:=by show 0<=(p.funcs.getD x.b.toNat jI).params/\(p.funcs.getD x.b.toNat jI).params<=8;omega
 have a1:=h.s.gos;have a2:=h.g;have a5:(aC m).regs.length=8:=gZ h.s _;refine sg rfl (sq (sq ?_));refine WP.ent (st':=aN [(4,.rp 26 (aj p)),(7,.rp 120 (aQ x)),(2,.int m.g),(5,.ptr (.s 5 0) 1 0 []),(8,.ptr (.s 8 0) 1 0 [])] [(.s 5 0,.cells ⟨301,1,λ_=>eH (iD m to),0⟩),(.s 8 0,.cells ⟨301,1,λ_=>(T 301).zero,0⟩)]) (em [(.s 4 0,1),(.s 7 0,1)] ⟨sF,sF,tt⟩ ⟨rq,rq,cq,cq,cq,tt⟩ ⟨obs rfl,obs rfl,tt⟩) ?_;refine rg [] rfl (cd rfl (λd=>?_) (λd=>?_))
 ·(have f:m.s.count=6:=by simp at d;omega);refine sg rfl (sg rfl ?_);refine rX ?_;refine aW hT rfl rfl rfl rfl rfl (ah ((aG _ _).trans ?_)) rfl rfl rfl;rw [ru,aa2 f];exact wB (iD m to) 8
 (have f:¬ m.s.count=6:=by simp at d;omega);refine sk (sq (rg [] rfl ?_));refine sq (rgs [] rfl ?_ ?_);{exact au};refine sg rfl (sq (sq (rg [] rfl ?_)));refine bk (WP.loop (α:=Nat) (λk=>aN [(2,.int m.g),(4,.rp 26 (aj p)),(5,.ptr (.s 5 0) 1 0 []),(7,.rp 120 (aQ x)),(8,.ptr (.s 8 0) 1 0 []),(9,.int m.s.count),(10,.rp 100 (dQ (p.funcs.getD x.b.toNat jI))),(11,.ptr (.s 11 0) 1 0 []),(12,.int k)] [(.s 5 0,.cells ⟨301,1,λ_=>eH (iD m to),0⟩),(.s 8 0,.cells ⟨301,1,λ_=>(T 301).zero,0⟩),(.s 11 0,.cells ⟨59,1,λ_=>bV (qW (aC m) x k),0⟩)]) (λk=>(k:Int)<=qN p x) (λk=>8 - k) ?_ ?_);{refine ⟨0,?_,?_⟩;{exact o.1};refine em [(.s 10 0,1)] ⟨sF,tt⟩ ⟨cq,cq,cq,cq,cq,cq,⟨rfl,_,rfl,bM rfl rfl (by decide) rfl (aG _ _) rfl⟩,cq,cq,tt⟩ ⟨obs rfl,obs rfl,obs rfl (hg:=q0 (ah ((aG _ _).trans (Zf _ _)))),tt⟩};rintro k hk;refine sq (sq (rg [] rfl ?_));refine cd rfl (λj=>?_) (λj=>?_);{have n:(k:Int)<qN p x:=aep j;have hw:IntKind.i64.wrap (x.c+(k:Int))=x.c+k:=bK (by omega) (by omega);refine sk (sq (bk (drs [] rfl ?_ ?_)));{rw [hw];exact au};refine rg [] rfl ⟨k+1,?_,?_,?_⟩;{omega};{refine eX cX ⟨obs rfl,obs rfl,obs rfl (hg:=q0 (ah ((ac8 (λz:Int=>(bV (qW (aC m) x k)).put [4,(k:Int).toNat] (.int (bn (aC m) z))) hw).trans ((kU _ (by show (k:Int).toNat<(yR _ _ _).length;rw [Hg];omega)).trans (by simp only [adu,qW];rw [OE (by omega)]))))),tt⟩};(try simp only []);first | omega | grind};have n:¬ (k:Int)<qN p x:=aeO j;(have v:k=(qN p x).toNat:=by omega);subst v;refine xt (sq (rgs [] rfl ?_ ?_));{exact au};refine sg rfl (sq ?_);have r:IntKind.i64.wrap (m.s.count+1)=m.s.count+1:=bK (by omega) (by omega);(have l:m.s.count.toNat<m.s.gos.length:=by omega);(have q:((eH (iD m to)).put [0,3,m.s.count.toNat] (bV (qW (aC m) x (qN p x).toNat))).put [0,4] (.int (IntKind.i64.wrap (m.s.count+1)))=eH ⟨(jM p m x).s,m.val,0,to⟩:=by rw [r,jR (ng l (Td _ _)),jR (xM _ _)];rfl);refine wE [(2,.int m.g),(5,.ptr (.s 5 0) 1 0 []),(7,.rp 120 (aQ x)),(8,.ptr (.s 8 0) 1 0 []),(9,.int m.s.count)] [(.s 5 0,.cells ⟨301,1,λ_=>eH ⟨(jM p m x).s,m.val,0,to⟩,0⟩),(.s 8 0,.cells ⟨301,1,λ_=>(T 301).zero,0⟩)] ⟨obs rfl (hg:=q0 (ah q)),obs rfl,tt⟩ (rgs [CG.pure (encS (bU (jM p m x) x.a m.s.count).s)] rfl ?_ ?_);{have hq:=sJ (jM p m x) (Ba h x) x.a m.s.count (by omega);exact au};refine sg rfl (sg rfl ?_);refine rX ?_;refine aW hT rfl rfl rfl rfl rfl (ah ((aG _ _).trans ?_)) rfl rfl rfl;refine (ac8 (λz=>AV.put z [1] (.int m.s.count)) (jR (s':=(bU (jM p m x) x.a m.s.count).s) (aG _ _))).trans ?_;rw [mD,ru,xw f,jv,xw f];show eH ⟨_,m.s.count,0,to⟩=eH ⟨_,(bU (jM p m x) x.a m.s.count).val,0,to⟩;rw [oQ];rfl
def y8 (m:PM) (to:Int) (x:iG):RD:=if x.op=56/\mJ m.s x.a≠m.g+1 then ⟨m.s,m.val,6,to⟩else iD (bG m x).1 to
theorem qZ {m:PM} {to:Int} {x:iG} (h:x.op≠56):y8 m to x=iD (bG m x).1 to:=xw (λe=>h e.1)
theorem sW (d:RD) (s':cZ):(eH d).put [0] (encS s')=eH { d with s:=s'}:=jR (aG _ _)
theorem Xk (p:ak) (m:PM) (to:Int) (F:gq) (x:iG) (h:mX m) (hp:qJ p) (hF:xk p F) (hi:DN p F x):AC Tryz.prog T aH 259 [eH (iD m to),.int m.g,aQ x] [] (eH (y8 m to x)) []:=by
 refine aX Tryz.func259 ?_;have hr:=hF.regs;have hv:=hp.vars;have b6:=hp.locks;have hg:=h.g;have h8:(aC m).regs.length=8:=gZ h.s _;have y:IntKind.i64.wrap (m.g+1)=m.g+1:=bK (by omega) (by omega);have b8:=h.s.vars;have b7:=h.s.owner;refine sg rfl (sq ?_);refine WP.ent (st':=aN [(5,.rp 120 (aQ x)),(1,.int m.g),(3,.ptr (.s 3 0) 1 0 []),(6,.ptr (.s 6 0) 1 0 [])] [(.s 3 0,.cells ⟨301,1,λ_=>eH (iD m to),0⟩),(.s 6 0,.cells ⟨301,1,λ_=>(T 301).zero,0⟩)]) (em [(.s 5 0,1)] ⟨sF,tt⟩ ⟨rq,cq,cq,cq,tt⟩ ⟨obs rfl,obs rfl,tt⟩) ?_;refine rgs [] rfl ?_ ?_
 ·exact au
 refine sq (sq ?_);refine wF [(.s 7 0,1)] ⟨sF,tt⟩ [(1,.int m.g),(3,.ptr (.s 3 0) 1 0 []),(5,.rp 120 (aQ x)),(6,.ptr (.s 6 0) 1 0 []),(7,.rp 52 (lC 52 8 .i64 (aC m).regs))] [(.s 3 0,.cells ⟨301,1,λ_=>eH (iD m to),0⟩),(.s 6 0,.cells ⟨301,1,λ_=>(T 301).zero,0⟩)] ⟨cq,cq,cq,cq,⟨rfl,_,rfl,bM rfl rfl (by decide) rfl (aG _ _) rfl⟩,tt⟩ ⟨obs rfl,obs rfl,tt⟩ (rg [] rfl ?_);refine bk (sq (rg [] rfl ?_));refine cd rfl (λh3=>?_) (λh3=>?_)
 ·(have e:x.op=50:=by simpa using h3);have hx:=hi.load e;simp only [jc,aZ]at hx;refine sq (rgs [] rfl ?_ ?_);{exact au};refine wE [(1,.int m.g),(3,.ptr (.s 3 0) 1 0 []),(5,.rp 120 (aQ x)),(6,.ptr (.s 6 0) 1 0 [])] [(.s 3 0,.cells ⟨301,1,λ_=>eH (iD (dK m (jD m.s x.b)) to),0⟩),(.s 6 0,.cells ⟨301,1,λ_=>(T 301).zero,0⟩)] ⟨obs rfl (hg:=q0 (ah (mD _ _))),obs rfl,tt⟩ (rgs [CG.pure (encS (bU (dK m (jD m.s x.b)) x.a (jD m.s x.b)).s)] rfl ?_ ?_);{have u:=sJ (dK m (jD m.s x.b)) (gQ h _) x.a (jD m.s x.b) (by omega);exact au};refine sg rfl (rX ?_);refine aW hT rfl rfl rfl rfl rfl (ah ((aG _ _).trans ?_)) rfl rfl rfl;rw [qZ (by omega),bG,aa2 e];refine (sW _ _).trans ?_;show eH ⟨_,jD m.s x.b,0,to⟩=eH ⟨_,(bU (dK m (jD m.s x.b)) x.a (jD m.s x.b)).val,0,to⟩;rw [oQ]
 (have i:x.op≠50:=by simpa using h3);refine sg rfl (cd rfl (λh6=>?_) (λh6=>?_));{(have e:x.op=51:=by simpa using h6);have hx:=hi.store (.inl e);simp only [jc,aZ]at hx;refine sq (rgs [] rfl ?_ ?_);{exact au};refine rgs [] rfl ?_ ?_;{exact au};refine sg rfl (rX ?_);refine aW hT rfl rfl rfl rfl rfl (ah ((aG _ _).trans ?_)) rfl rfl rfl;rw [qZ (by omega),bG,xw i,aa2 e];show ((eH (iD m to)).put [1] (.int (bn (aC m) x.b))).put [0,0,x.a.toNat] (.int (bn (aC m) x.b))=_;rw [mD,jR (wz _ (by show _<m.s.vars.length;omega))]};(have j:x.op≠51:=by simpa using h6);refine sg rfl (cd rfl (λh9=>?_) (λh9=>?_));{(have e:x.op=52:=by simpa using h9);have hx:=hi.bump e;simp only [jc,aZ]at hx;refine sq (rgs [] rfl ?_ ?_);{exact au};refine sq (wE [(1,.int m.g),(3,.ptr (.s 3 0) 1 0 []),(5,.rp 120 (aQ x)),(6,.ptr (.s 6 0) 1 0 [])] [(.s 3 0,.cells ⟨301,1,λ_=>eH (iD (dK m (bn (aC m) x.c)) to),0⟩),(.s 6 0,.cells ⟨301,1,λ_=>(T 301).zero,0⟩)] ⟨obs rfl (hg:=q0 (ah (mD _ _))),obs rfl,tt⟩ ?_);refine drs [CG.pure (encS (sH m x).s)] rfl ?_ ?_;{have u:=sJ (dK m (bn (aC m) x.c)) (gQ h _) x.a (jD m.s x.b) (by omega);exact au};have b3:(sH m x).val=bn (aC m) x.c:=oQ _ _ _;have b5:(sH m x).s.vars.length=8:=(Hy h x).s.vars;refine wE [(1,.int m.g),(3,.ptr (.s 3 0) 1 0 []),(5,.rp 120 (aQ x)),(6,.ptr (.s 6 0) 1 0 [])] [(.s 3 0,.cells ⟨301,1,λ_=>eH (iD (sH m x) to),0⟩),(.s 6 0,.cells ⟨301,1,λ_=>(T 301).zero,0⟩)] ⟨obs rfl (hg:=q0 (ah ((sW _ _).trans (by show eH ⟨_,bn (aC m) x.c,0,to⟩=eH ⟨_,(sH m x).val,0,to⟩;rw [b3])))),obs rfl,tt⟩ (drs [] rfl ?_ ?_);{exact au};refine sg rfl (rX ?_);refine aW hT rfl rfl rfl rfl rfl (ah ((aG _ _).trans ?_)) rfl rfl rfl;rw [qZ (by omega),bG,xw i,xw j,aa2 e];exact jR (wz _ (by show _<(sH m x).s.vars.length;omega))};(have k:x.op≠52:=by simpa using h9);refine sg rfl (cd rfl (λa2=>?_) (λa2=>?_));{(have e:x.op=53:=by simpa using a2);have hx:=hi.cas e;simp only [jc,aZ]at hx;refine sq (drs [CG.pure (.int (iC (jD m.s x.b==bn (aC m) x.c)))] rfl ?_ ?_);{have u:=GV (jD m.s x.b==bn (aC m) x.c);exact au};refine sq (sq ?_);obtain ⟨v,f⟩:∃ v,iC (jD m.s x.b==bn (aC m) x.c)=v:=⟨_,rfl⟩;refine wE [(1,.int m.g),(3,.ptr (.s 3 0) 1 0 []),(5,.rp 120 (aQ x)),(6,.ptr (.s 6 0) 1 0 []),(7,.rp 52 (lC 52 8 .i64 (aC m).regs))] [(.s 3 0,.cells ⟨301,1,λ_=>eH (iD (dK m v) to),0⟩),(.s 6 0,.cells ⟨301,1,λ_=>(T 301).zero,0⟩)] ⟨obs rfl (hg:=q0 (ah ((ac8 (λz=>(eH (iD m to)).put [1] (.int z)) f).trans (mD _ _)))),obs rfl,tt⟩ (rg [] rfl ?_);refine cd rfl (λa3=>?_) (λa3=>?_);{(have h1:v=1:=by simpa using a3);(have d:jJ m x=setVar (dK m v) x.b (bn (aC m) x.n):=by rw [jJ,f,aa2 h1]);refine drs [] rfl ?_ ?_;{exact au};(have q:(jJ m x).val=v:=by rw [d]);refine wE [(1,.int m.g),(3,.ptr (.s 3 0) 1 0 []),(5,.rp 120 (aQ x)),(6,.ptr (.s 6 0) 1 0 [])] [(.s 3 0,.cells ⟨301,1,λ_=>eH (iD (jJ m x) to),0⟩),(.s 6 0,.cells ⟨301,1,λ_=>(T 301).zero,0⟩)] ⟨obs rfl (hg:=q0 (ah (by rw [d];exact jR (wz _ (by show _<m.s.vars.length;omega))))),obs rfl,tt⟩ (rgs [CG.pure (encS (bU (jJ m x) x.a (jJ m x).val).s)] rfl ?_ ?_);{have u:=sJ (jJ m x) (CW h x) x.a (jJ m x).val (by omega);(have o:(jJ m x).g=m.g:=by rw [d]);rw [o]at u;exact au};refine sg rfl (rX ?_);refine aW hT rfl rfl rfl rfl rfl (ah ((aG _ _).trans ?_)) rfl rfl rfl;rw [qZ (by omega),bG,xw i,xw j,xw k,aa2 e,f.trans q.symm];refine (sW _ _).trans ?_;show eH ⟨_,(jJ m x).val,0,to⟩=eH ⟨_,(bU (jJ m x) x.a (jJ m x).val).val,0,to⟩;rw [oQ]};(have h1:¬ v=1:=by simpa using a3);(have d:jJ m x=dK m v:=by rw [jJ,f,xw h1]);(have q:(jJ m x).val=v:=by rw [d]);refine sk (wE [(1,.int m.g),(3,.ptr (.s 3 0) 1 0 []),(5,.rp 120 (aQ x)),(6,.ptr (.s 6 0) 1 0 [])] [(.s 3 0,.cells ⟨301,1,λ_=>eH (iD (jJ m x) to),0⟩),(.s 6 0,.cells ⟨301,1,λ_=>(T 301).zero,0⟩)] ⟨obs rfl (hg:=q0 (ah (by rw [d]))),obs rfl,tt⟩ ?_);refine rgs [CG.pure (encS (bU (jJ m x) x.a (jJ m x).val).s)] rfl ?_ ?_;{have u:=sJ (jJ m x) (CW h x) x.a (jJ m x).val (by omega);(have o:(jJ m x).g=m.g:=by rw [d]);rw [o]at u;exact au};refine sg rfl (rX ?_);refine aW hT rfl rfl rfl rfl rfl (ah ((aG _ _).trans ?_)) rfl rfl rfl;rw [qZ (by omega),bG,xw i,xw j,xw k,aa2 e,f.trans q.symm];refine (sW _ _).trans ?_;show eH ⟨_,(jJ m x).val,0,to⟩=eH ⟨_,(bU (jJ m x) x.a (jJ m x).val).val,0,to⟩;rw [oQ]};(have r:x.op≠53:=by simpa using a2);refine sg rfl (cd rfl (λa4=>?_) (λa4=>?_));{(have e:x.op=54:=by simpa using a4);have hx:=hi.store (.inr e);simp only [jc,aZ]at hx;refine rgs [] rfl ?_ ?_;{exact au};refine sg rfl (rX ?_);refine aW hT rfl rfl rfl rfl rfl (ah ((aG _ _).trans ?_)) rfl rfl rfl;rw [qZ (by omega),bG,xw i,xw j,xw k,xw r,aa2 e];exact mD _ _};(have t:x.op≠54:=by simpa using a4);refine sg rfl (cd rfl (λa5=>?_) (λa5=>?_));{(have e:x.op=55:=by simpa using a5);have hx:=hi.lock (.inl e);refine rgs [] rfl ?_ ?_;{exact au};refine sg rfl (rX ?_);refine aW hT rfl rfl rfl rfl rfl (ah ((aG _ _).trans ?_)) rfl rfl rfl;rw [qZ (by omega),bG,xw i,xw j,xw k,xw r,xw t,aa2 e];show (eH (iD m to)).put [0,1,x.a.toNat] (.int (IntKind.i64.wrap (m.g+1)))=_;rw [y];exact jR (CJ _ (by show _<m.s.owner.length;omega))};(have w:x.op≠55:=by simpa using a5);refine sg rfl (cd rfl (λa6=>?_) (λa6=>?_));{(have e:x.op=56:=by simpa using a6);have hx:=hi.lock (.inr e);refine sq (sq (rgs [] rfl ?_ ?_));{exact au};refine cd rfl (λl=>?_) (λl=>?_);{(have hl:mJ m.s x.a≠m.g+1:=by rw [y]at l;simp [-List.getD_eq_getElem?_getD]at l;exact l);refine sg rfl (sg rfl ?_);refine rX ?_;refine aW hT rfl rfl rfl rfl rfl (ah ((aG _ _).trans ?_)) rfl rfl rfl;rw [y8,aa2 ⟨e,hl⟩];exact wB (iD m to) 6};(have hl:¬ mJ m.s x.a≠m.g+1:=by rw [y]at l;simp [-List.getD_eq_getElem?_getD]at l;exact λhh=>hh l);refine sk (rgs [] rfl ?_ ?_);{exact au};refine sg rfl (rX ?_);refine aW hT rfl rfl rfl rfl rfl (ah ((aG _ _).trans ?_)) rfl rfl rfl;rw [y8,xw (λhh=>hl hh.2),bG,xw i,xw j,xw k,xw r,xw t,xw w,aa2 e,xw hl];exact jR (CJ _ (by show _<m.s.owner.length;omega))};(have a0:x.op≠56:=by simpa using a6);refine sg rfl (cd rfl (λa7=>?_) (λa7=>?_));{(have e:x.op=57:=by simpa using a7);have hx:=hi.try_ e;simp only [jc,aZ]at hx;refine sq (rgs [CG.pure (.int (iC (mJ m.s x.b==0)))] rfl ?_ ?_);{have u:=GV (mJ m.s x.b==0);exact au};refine sq (sq ?_);obtain ⟨v,f⟩:∃ v,iC (mJ m.s x.b==0)=v:=⟨_,rfl⟩;refine wE [(1,.int m.g),(3,.ptr (.s 3 0) 1 0 []),(5,.rp 120 (aQ x)),(6,.ptr (.s 6 0) 1 0 [])] [(.s 3 0,.cells ⟨301,1,λ_=>eH (iD (dK m v) to),0⟩),(.s 6 0,.cells ⟨301,1,λ_=>(T 301).zero,0⟩)] ⟨obs rfl (hg:=q0 (ah ((ac8 (λz=>(eH (iD m to)).put [1] (.int z)) f).trans (mD _ _)))),obs rfl,tt⟩ (rg [] rfl ?_);refine cd rfl (λa8=>?_) (λa8=>?_);{(have h1:v=1:=by simpa using a8);(have d:jH m x=vH (dK m v) x.b (m.g+1):=by rw [jH,f,aa2 h1]);(have q:(jH m x).val=v:=by rw [d]);refine rgs [] rfl ?_ ?_;{exact au};refine wE [(1,.int m.g),(3,.ptr (.s 3 0) 1 0 []),(5,.rp 120 (aQ x)),(6,.ptr (.s 6 0) 1 0 [])] [(.s 3 0,.cells ⟨301,1,λ_=>eH (iD (jH m x) to),0⟩),(.s 6 0,.cells ⟨301,1,λ_=>(T 301).zero,0⟩)] ⟨obs rfl (hg:=q0 (ah (by rw [d,y];exact jR (CJ _ (by show _<m.s.owner.length;omega))))),obs rfl,tt⟩ (rgs [CG.pure (encS (bU (jH m x) x.a (jH m x).val).s)] rfl ?_ ?_);{have u:=sJ (jH m x) (CU h x) x.a (jH m x).val (by omega);(have o:(jH m x).g=m.g:=by rw [d]);rw [o]at u;exact au};refine sg rfl (rX ?_);refine aW hT rfl rfl rfl rfl rfl (ah ((aG _ _).trans ?_)) rfl rfl rfl;rw [qZ (by omega),bG,xw i,xw j,xw k,xw r,xw t,xw w,xw a0,aa2 e,f.trans q.symm];refine (sW _ _).trans ?_;show eH ⟨_,(jH m x).val,0,to⟩=eH ⟨_,(bU (jH m x) x.a (jH m x).val).val,0,to⟩;rw [oQ]};(have h1:¬ v=1:=by simpa using a8);(have d:jH m x=dK m v:=by rw [jH,f,xw h1]);(have q:(jH m x).val=v:=by rw [d]);refine sk (wE [(1,.int m.g),(3,.ptr (.s 3 0) 1 0 []),(5,.rp 120 (aQ x)),(6,.ptr (.s 6 0) 1 0 [])] [(.s 3 0,.cells ⟨301,1,λ_=>eH (iD (jH m x) to),0⟩),(.s 6 0,.cells ⟨301,1,λ_=>(T 301).zero,0⟩)] ⟨obs rfl (hg:=q0 (ah (by rw [d]))),obs rfl,tt⟩ ?_);refine rgs [CG.pure (encS (bU (jH m x) x.a (jH m x).val).s)] rfl ?_ ?_;{have u:=sJ (jH m x) (CU h x) x.a (jH m x).val (by omega);(have o:(jH m x).g=m.g:=by rw [d]);rw [o]at u;exact au};refine sg rfl (rX ?_);refine aW hT rfl rfl rfl rfl rfl (ah ((aG _ _).trans ?_)) rfl rfl rfl;rw [qZ (by omega),bG,xw i,xw j,xw k,xw r,xw t,xw w,xw a0,aa2 e,f.trans q.symm];refine (sW _ _).trans ?_;show eH ⟨_,(jH m x).val,0,to⟩=eH ⟨_,(bU (jH m x) x.a (jH m x).val).val,0,to⟩;rw [oQ]};(have a9:x.op≠57:=by simpa using a7);refine sk (sq (rg [] rfl ?_));refine rX ?_;refine aW hT rfl rfl rfl rfl rfl (ah ((aG _ _).trans ?_)) rfl rfl rfl;rw [qZ (by omega),bG,xw i,xw j,xw k,xw r,xw t,xw w,xw a0,xw a9];rfl
def zi (m:PM) (to:Int) (k:Int):RD:=if jL m.s m.g k=true then ⟨m.s,k,0,to⟩else ⟨m.s,m.val,7,to⟩
def BZ (p:ak) (m:PM) (q:rZ) (alt:Int):RD :=
 if alt=q.cases.length then ⟨m.s,m.val,0,q.els⟩else
 if (aA q alt.toNat).send=true then oJ p m (aA q alt.toNat).to (aA q alt.toNat).chan (bn (aC m) (aA q alt.toNat).reg)else tY m (aA q alt.toNat).to (aA q alt.toNat).chan (aA q alt.toNat).reg (-1)
def ou (p:ak) (m:PM) (x:iG) (q:rZ) (alt:Int):RD :=
 if x.op=66 then xI m ((aC m).pc+1) x.a else if x.op=58 then oJ p m ((aC m).pc+1) x.a (bn (aC m) x.b)else
 if x.op=59 then tY m ((aC m).pc+1) x.b x.a x.c else if x.op=60 then vI m ((aC m).pc+1) x.a else
 if x.op=62 then ru p m ((aC m).pc+1) x else if x.op=63 then zi m ((aC m).pc+1) (bn (aC m) x.a)else
 if x.op=65 then ⟨m.s,bn (aC m) x.a,0,(aC m).pc+1⟩else if x.op=61 then BZ p m q alt else y8 m ((aC m).pc+1) x
theorem Si {p:ak} {s:cZ} (g:dF p s) {c:Int} (hc:0<=c/\c<4):∀ i:Nat,(bW s c).len<=i->i<4->(bW s c).buf.getD i 0=0:=λi d a=>by
 have b:=g.2.2.2.2.2.1 c.toNat (by omega);by_cases e:c.toNat<p.chans.length
 ·exact (b.1 e).2.1 i a d
 ·have f:bW s c=BG:=b.2 (by omega);rw [f]
  match i,a with
  | 0,_ | 1,_ | 2,_ | 3,_=>rfl
theorem ZP (p:ak) (s:cZ) (g n alt:Int) (h:dZ p s g) (ha:alt∈iR p s g):AC Tryz.prog T aH 209 [aj p,encS s,.int g,.int alt] [] (eH (ou p (jK s g n) (aU p s g) (bJ p s g) alt)) []:=by
 refine aX Tryz.func209 ?_;have hp:=h.prog;have hF:=h.fn;have a4:=h.at;have hr:=hF.regs;have d5:=hp.chans;have hi:(aU p s g).op≠66->DN p (bP p (goI s g)) (aU p s g):=λe=>by rw [a4.ins e];exact h.ins
 have d:mX (jK s g n):=⟨h.ok,h.pos⟩;have f:=Tv h.valid;have d1:=h.fit.2.2.1;have d6:=hF.code;have hg:=h.pos;have d7:=h.valid.2.1;unfold aZ at d1;have hw:IntKind.i64.wrap ((goI s g).pc+1)=(goI s g).pc+1:=bK (by omega) (by omega);have b0:(insOf p (goI s g)).a=(aU p s g).a/\(insOf p (goI s g)).b=(aU p s g).b/\(insOf p (goI s g)).c=(aU p s g).c:=by unfold aU;split <;> exact ⟨rfl,rfl,rfl⟩
 obtain ⟨m,hm⟩:∃ m,jK s g n=m:=⟨_,rfl⟩;have c9:m.s=s:=by rw [<- hm];rfl
 have c8:m.g=g:=by rw [<- hm];rfl
 have d0:m.val=0:=by rw [<- hm];rfl
 rw [hm]at d ⊢;subst c9 c8;have h8:(aC m).regs.length=8:=gZ d.s _;have c3:=h.fit.2.1;refine sg rfl (sq ?_);refine WP.ent (st':=aN [(4,.rp 26 (aj p)),(5,.rp 62 (encS m.s)),(2,.int m.g),(3,.int alt),(8,.ptr (.s 8 0) 1 0 [])] [(.s 8 0,.cells ⟨301,1,λ_=>(T 301).zero,0⟩)]) (em [(.s 4 0,1),(.s 5 0,1)] ⟨sF,sF,tt⟩ ⟨rq,rq,cq,cq,cq,tt⟩ ⟨obs rfl,tt⟩) ?_;refine rgs [CG.pure (aQ (insOf p (goI m.s m.g)))] rfl ?_ ?_
 ·have v:=wu p m.s m.g h;exact au
 refine sq (drs [] rfl ?_ ?_)
 ·exact au
 refine sq (rgs [] rfl ?_ ?_)
 ·exact au
 refine sq (sq ?_);refine wF [(.s 9 0,1),(.s 11 0,1)] ⟨sF,sF,tt⟩ [(2,.int m.g),(3,.int alt),(4,.rp 26 (aj p)),(5,.rp 62 (encS m.s)),(8,.ptr (.s 8 0) 1 0 []),(9,.rp 120 (aQ (insOf p (goI m.s m.g)))),(10,.ptr (.s 10 0) 1 0 []),(11,.rp 52 (lC 52 8 .i64 (aC m).regs))] [(.s 8 0,.cells ⟨301,1,λ_=>(T 301).zero,0⟩),(.s 10 0,.cells ⟨301,1,λ_=>eH (iD m ((aC m).pc+1)),0⟩)] ⟨cq,cq,cq,cq,cq,⟨rfl,_,rfl,bM rfl rfl (by decide) rfl (aG _ _) rfl⟩,cq,⟨rfl,_,rfl,bM rfl rfl (by decide) rfl (aG _ _) rfl⟩,tt⟩ ⟨obs rfl,obs rfl (hg:=q0 (ah ((aG _ _).trans (bH λq=>by match q with | 0=>rfl | 1=>(show AV.int 0=AV.int m.val;rw [d0]) | 2=>rfl | 3=>exact ac8 AV.int hw | q+4=>rfl)))),tt⟩ (rgs [CG.pure (.int (aU p m.s m.g).op)] rfl ?_ ?_)
 ·have v:=Eb p m.s m.g h;exact au
 refine bk (sq ?_);obtain ⟨x,hx⟩:∃ x,aU p m.s m.g=x:=⟨_,rfl⟩;obtain ⟨q,b3⟩:∃ q,bJ p m.s m.g=q:=⟨_,rfl⟩;have b6:=Ac ha;have a6:=DJ ha;have a9:=h.sel;rw [hx]at hi b0 b6 a6 a9 ⊢;rw [b3]at a6 a9 ⊢;have b2:x.op≠66->insOf p (goI m.s m.g)=x:=λe=>by rw [<- hx];exact (a4.ins (by rw [hx];exact e)).symm
 have d2:jd p m.s m.g=true->jd p m.s m.g=true:=id;refine rg [] rfl (cd rfl (λh5=>?_) (λh5=>?_))
 ·(have e:x.op=66:=by simpa using h5);have hb:=a4.send (.inr (.inr (by rw [hx];exact e)));rw [hx]at hb;unfold aZ at hb;refine sq (rgs [CG.pure (eH (xI m ((aC m).pc+1) x.a))] rfl ?_ ?_);{have v:=UL m ((aC m).pc+1) x.a d (by omega);rw [<- b0.1]at v ⊢;exact au};refine rX ?_;refine aW hT rfl rfl rfl rfl rfl (ah ((aG _ _).trans ?_)) rfl rfl rfl;rw [ou,aa2 e];rfl
 (have n66:x.op≠66:=by simpa using h5);have c6:=b2 n66;rw [c6];have i:=hi n66;refine sg rfl (cd rfl (λh7=>?_) (λh7=>?_));{(have e:x.op=58:=by simpa using h7);have hb:=i.send e;(have a8:jV p m.s x.a=true:=by have h1:=(b6 (by omega)).1;unfold jd at h1;rw [hx,xw (by omega),xw (by omega),aa2 e]at h1;exact h1);have a7:=f x.a (by have:=hb.1;unfold aZ at this;omega);refine sq (drs [CG.pure (eH (oJ p m ((aC m).pc+1) x.a (bn (aC m) x.b)))] rfl ?_ ?_);{have v:=NW p m ((aC m).pc+1) x.a (bn (aC m) x.b) d hb.1 hp a8 a7.1;simp only [jc,aZ]at hb;exact au};refine rX ?_;refine aW hT rfl rfl rfl rfl rfl (ah ((aG _ _).trans ?_)) rfl rfl rfl;rw [ou,xw n66,aa2 e];rfl};(have n58:x.op≠58:=by simpa using h7);refine sg rfl (cd rfl (λh9=>?_) (λh9=>?_));{(have e:x.op=59:=by simpa using h9);have hb:=i.recv e;simp only [jc,aZ]at hb;refine sq (rgs [CG.pure (eH (tY m ((aC m).pc+1) x.b x.a x.c))] rfl ?_ ?_);{have v:=NZ m ((aC m).pc+1) x.b x.a x.c d (by omega) (f x.b (by omega)) (Si h.valid (by omega)) (by omega) (by omega);exact au};refine rX ?_;refine aW hT rfl rfl rfl rfl rfl (ah ((aG _ _).trans ?_)) rfl rfl rfl;rw [ou,xw n66,xw n58,aa2 e];rfl};(have n59:x.op≠59:=by simpa using h9);refine sg rfl (cd rfl (λz=>?_) (λz=>?_));{(have e:x.op=60:=by simpa using z);have hb:=i.close e;unfold aZ at hb;refine sq (rgs [CG.pure (eH (vI m ((aC m).pc+1) x.a))] rfl ?_ ?_);{have v:=QD m ((aC m).pc+1) x.a d (by omega);exact au};refine rX ?_;refine aW hT rfl rfl rfl rfl rfl (ah ((aG _ _).trans ?_)) rfl rfl rfl;rw [ou,xw n66,xw n58,xw n59,aa2 e];rfl};(have n60:x.op≠60:=by simpa using z);refine sg rfl (cd rfl (λa0=>?_) (λa0=>?_));{(have e:x.op=62:=by simpa using a0);refine sq (rgs [CG.pure (eH (ru p m ((aC m).pc+1) x))] rfl ?_ ?_);{have v:=UN p m ((aC m).pc+1) (bP p (goI m.s m.g)) x d hp hF i e (by omega);exact au};refine rX ?_;refine aW hT rfl rfl rfl rfl rfl (ah ((aG _ _).trans ?_)) rfl rfl rfl;rw [ou,xw n66,xw n58,xw n59,xw n60,aa2 e];rfl};(have n62:x.op≠62:=by simpa using a0);refine sg rfl (cd rfl (λa1=>?_) (λa1=>?_));{(have e:x.op=63:=by simpa using a1);have hb:=i.const (.inr (.inr (.inr (.inl e))));simp only [jc]at hb;refine sq (rgs [] rfl ?_ ?_);{exact au};refine sq (sq ?_);obtain ⟨k,hk⟩:∃ k,bn (aC m) x.a=k:=⟨_,rfl⟩;(have j:ou p m x q alt=zi m ((aC m).pc+1) k:=by rw [ou,xw n66,xw n58,xw n59,xw n60,xw n62,aa2 e,hk]);refine wT [(2,.int m.g),(5,.rp 62 (encS m.s)),(8,.ptr (.s 8 0) 1 0 []),(10,.ptr (.s 10 0) 1 0 []),(12,.int k)] [(.s 8 0,.cells ⟨301,1,λ_=>(T 301).zero,0⟩),(.s 10 0,.cells ⟨301,1,λ_=>eH (iD m ((aC m).pc+1)),0⟩)] ⟨cq,cq,cq,cq,⟨rfl,_,rfl,ah (by rw [<- hk])⟩,tt⟩ ⟨obs rfl,obs rfl,tt⟩ (rg [] rfl ?_);refine cd rfl (λl=>?_) (λl=>?_);{(have ht:¬ jL m.s m.g k=true:=by simp only [fG]at l;simp only [jL,acf];simp at l;omega);refine sg rfl (sg rfl ?_);refine rX ?_;refine aW hT rfl rfl rfl rfl rfl (ah ((aG _ _).trans ?_)) rfl rfl rfl;rw [j,zi,xw ht];exact wB (iD m ((aC m).pc+1)) 7};(have ht:jL m.s m.g k=true:=by simp only [fG]at l;simp only [jL,acf];simp at l;omega);refine sk (sq (rg [] rfl ?_));refine sg rfl (rX ?_);refine aW hT rfl rfl rfl rfl rfl (ah ((aG _ _).trans ?_)) rfl rfl rfl;rw [j,zi,aa2 ht];exact mD (iD m ((aC m).pc+1)) k};(have n63:x.op≠63:=by simpa using a1);refine sg rfl (cd rfl (λa2=>?_) (λa2=>?_));{(have e:x.op=65:=by simpa using a2);have hb:=i.const (.inr (.inr (.inl e)));simp only [jc]at hb;refine sq (rgs [] rfl ?_ ?_);{exact au};refine sg rfl (rX ?_);refine aW hT rfl rfl rfl rfl rfl (ah ((aG _ _).trans ?_)) rfl rfl rfl;rw [ou,xw n66,xw n58,xw n59,xw n60,xw n62,xw n63,aa2 e];exact mD (iD m ((aC m).pc+1)) _};(have n65:x.op≠65:=by simpa using a2);refine sg rfl (cd rfl (λa3=>?_) (λa3=>?_));{(have e:x.op=61:=by simpa using a3);obtain ⟨c4,b8⟩:=a9 e;have d8:=b8.len;obtain ⟨d4,c5⟩:=a6 e;(have j:ou p m x q alt=BZ p m q alt:=by rw [ou,xw n66,xw n58,xw n59,xw n60,xw n62,xw n63,xw n65,aa2 e]);refine sq (drs [] rfl ?_ ?_);{simp only [aZ,bP,goI]at c4 c3;exact au};refine sq (sq ?_);refine wF [(.s 13 0,1)] ⟨sF,tt⟩ [(2,.int m.g),(3,.int alt),(4,.rp 26 (aj p)),(8,.ptr (.s 8 0) 1 0 []),(10,.ptr (.s 10 0) 1 0 []),(11,.rp 52 (lC 52 8 .i64 (aC m).regs)),(13,.rp 103 (gB q))] [(.s 8 0,.cells ⟨301,1,λ_=>(T 301).zero,0⟩),(.s 10 0,.cells ⟨301,1,λ_=>eH (iD m ((aC m).pc+1)),0⟩)] ⟨cq,cq,cq,cq,cq,cq,⟨rfl,_,rfl,bM rfl rfl (by decide) rfl ((aG _ _).trans (by rw [<- b3,<- hx];rfl)) rfl⟩,tt⟩ ⟨obs rfl,obs rfl,tt⟩ (rg [] rfl ?_);refine cd rfl (λo=>?_) (λo=>?_);{(have y:alt=q.cases.length:=by simp [-List.getD_eq_getElem?_getD]at o;exact o);refine sg rfl (sg rfl ?_);refine rX ?_;refine aW hT rfl rfl rfl rfl rfl (ah ((aG _ _).trans ?_)) rfl rfl rfl;rw [j,BZ,aa2 y];exact LG (iD m ((aC m).pc+1)) q.els};(have y:¬ alt=q.cases.length:=by simp [-List.getD_eq_getElem?_getD]at o;exact o);(have c7:alt<q.cases.length:=by omega);have t:=c5 c7;obtain ⟨c,r⟩:∃ c,aA q alt.toNat=c:=⟨_,rfl⟩;have b1:=b8.case c (by rw [<- r];unfold aA;rw [aae,Y0 (show alt.toNat<q.cases.length by omega)];exact acr _);rw [r]at t;have a5:=b1.chan;have b7:=b1.reg;refine sk (sq (rgs [] rfl ?_ ?_));{exact au};refine sq (wF [(.s 14 0,1)] ⟨sF,tt⟩ [(2,.int m.g),(4,.rp 26 (aj p)),(8,.ptr (.s 8 0) 1 0 []),(10,.ptr (.s 10 0) 1 0 []),(11,.rp 52 (lC 52 8 .i64 (aC m).regs)),(14,.rp 215 (pz c))] [(.s 8 0,.cells ⟨301,1,λ_=>(T 301).zero,0⟩),(.s 10 0,.cells ⟨301,1,λ_=>eH (iD m ((aC m).pc+1)),0⟩)] ⟨cq,cq,cq,cq,cq,⟨rfl,_,rfl,bM rfl rfl (by decide) rfl ((aG _ _).trans (by rw [<- r];rfl)) rfl⟩,tt⟩ ⟨obs rfl,obs rfl,tt⟩ ?_);refine rg [] rfl (sq (sq ?_));refine wE [(2,.int m.g),(4,.rp 26 (aj p)),(8,.ptr (.s 8 0) 1 0 []),(10,.ptr (.s 10 0) 1 0 []),(11,.rp 52 (lC 52 8 .i64 (aC m).regs)),(14,.rp 215 (pz c))] [(.s 8 0,.cells ⟨301,1,λ_=>(T 301).zero,0⟩),(.s 10 0,.cells ⟨301,1,λ_=>eH (iD m c.to),0⟩)] ⟨obs rfl,obs rfl (hg:=q0 (ah (LG (iD m ((aC m).pc+1)) c.to))),tt⟩ (rg [] rfl ?_);refine cd rfl (λw=>?_) (λw=>?_);{have u:c.send=true:=w;(have a8:jV p m.s c.chan=true:=by rw [wZ,u]at t;simpa using t);have b4:=b7 (.inl u);unfold jc at b4;have a7:=f c.chan (by unfold aZ at a5;omega);refine sq (drs [CG.pure (eH (oJ p m c.to c.chan (bn (aC m) c.reg)))] rfl ?_ ?_);{have v:=NW p m c.to c.chan (bn (aC m) c.reg) d a5 hp a8 a7.1;exact au};refine rX ?_;refine aW hT rfl rfl rfl rfl rfl (ah ((aG _ _).trans ?_)) rfl rfl rfl;rw [j,BZ,xw y,r,aa2 u];rfl};(have u:¬ c.send=true:=λe=>by rw [e]at w;cases w);(have b4:c.reg = -1\/0<=c.reg/\c.reg<(bP p (goI m.s m.g)).regs:=by by_cases b5:c.reg = -1;{exact .inl b5};have:=b7 (.inr b5);unfold jc at this;exact .inr this);unfold aZ at a5;refine sk (sq (rgs [CG.pure (eH (tY m c.to c.chan c.reg (-1)))] rfl ?_ ?_));{have v:=NZ m c.to c.chan c.reg (-1) d (by omega) (f c.chan (by omega)) (Si h.valid (by omega)) (by omega) (by omega);exact au};refine rX ?_;refine aW hT rfl rfl rfl rfl rfl (ah ((aG _ _).trans ?_)) rfl rfl rfl;rw [j,BZ,xw y,r,xw u];rfl};(have n61:x.op≠61:=by simpa using a3);refine sk (sq (rgs [CG.pure (eH (y8 m ((aC m).pc+1) x))] rfl ?_ ?_));{have v:=Xk p m ((aC m).pc+1) (bP p (goI m.s m.g)) x d hp hF i;exact au};refine rX ?_;refine aW hT rfl rfl rfl rfl rfl (ah ((aG _ _).trans ?_)) rfl rfl rfl;rw [ou,xw n66,xw n58,xw n59,xw n60,xw n62,xw n63,xw n65,xw n61];rfl
theorem WS.fB {s:cZ} (h:WS s) {k:Nat} {x:iW} (hx:okW x):WS { s with gos:=s.gos.set k x}:=⟨h.vars,h.ch,λg hg=>by
 rcases ad1 hg with a | a
 ·exact h.go g a
 ·rw [a];exact hx⟩
theorem WS.cu {s:cZ} (h:WS s) {k:Nat} {x:iU} (hx:(∀ v∈x.buf,oD v)/\oD x.val):WS { s with chans:=s.chans.set k x}:=⟨h.vars,λc hc=>by
 rcases ad1 hc with a | a
 ·exact h.ch c a
 ·rw [a];exact hx,h.go⟩
theorem WS.setVar {s:cZ} (h:WS s) (k:Nat) {x:Int} (hx:oD x):WS { s with vars:=s.vars.set k x}:=⟨λv b=>by
 rcases ad1 b with a | a
 ·exact h.vars v a
 ·rw [a];exact hx,h.ch,h.go⟩
theorem WS.setOwn {s:cZ} (h:WS s) (l:List Int):WS { s with owner:=l}:=⟨h.vars,h.ch,h.go⟩
theorem VD:oD 0:=qV (by decide) (by decide)
theorem getD_in {l:List Int} (h:∀ v∈l,oD v) (k:Nat):oD (l.getD k 0):=by
 rw [aae];rcases adv k l.length with a | a
 ·rw [Y0 a];exact h _ (acr _)
 rw [adA a];exact VD
theorem Xh {l:List Int} (h:∀ v∈l,oD v) (k:Nat) {x:Int} (hx:oD x):∀ v∈l.set k x,oD v:=λv b=>by
 rcases ad1 b with a | a
 ·exact h v a
 ·rw [a];exact hx
theorem WS.chW {s:cZ} (h:WS s) (c:Int):(∀ v∈(bW s c).buf,oD v)/\oD (bW s c).val:=by
 unfold bW;rw [aae];rcases adv c.toNat s.chans.length with a | a
 ·rw [Y0 a];exact h.ch _ (acr _)
 rw [adA a];refine ⟨λv b=>?_,VD⟩;(have:v=0:=by simpa [BG]using b);rw [this];exact VD
theorem xA {m:PM} (h:WS m.s) (r:Int) {v:Int} (a:oD v):WS (bU m r v).s:=by
 unfold bU;split
 ·exact h.fB (FK (h.at m.g) r a)
 exact h
theorem Ya (b:Bool):oD (iC b):=by cases b <;> exact qV (by decide) (by decide)
theorem ZA {m:PM} (h:WS m.s) (c:Int):WS (dH m c).1.s/\oD (dH m c).1.val:=by
 have hc:=h.chW c;unfold dH;split
 ·refine ⟨h.cu ⟨Xh (λv a=>?_) _ VD,hc.2⟩,getD_in hc.1 0⟩;simp only [jQ,aeg,List.not_mem_nil,or_false]at a;rcases a with rfl | rfl | rfl | rfl <;> exact getD_in hc.1 _
 split
 ·exact ⟨h.cu ⟨hc.1,VD⟩,hc.2⟩
 exact ⟨h,VD⟩
theorem Zz {p:ak} {m:PM} (h:WS m.s) (c:Int) {v:Int} (a:oD v):WS (iT p m c v).s:=by
 have hc:=h.chW c;unfold iT;split
 ·exact h.fB (FQ _ _ _)
 split
 ·exact h.cu ⟨Xh hc.1 _ a,hc.2⟩
 exact (h.cu (x:={ bW m.s c with offer:=1,frm:=m.g,val:=v}) ⟨hc.1,a⟩).fB (h.at m.g)
theorem Nb {p:ak} {m:PM} (h:WS m.s) (to c:Int) {v:Int} (a:oD v):WS (oJ p m to c v).s:=by
 unfold oJ;split
 ·exact h
 exact Zz h c a
theorem Nc {m:PM} (h:WS m.s) (to c r ok:Int):WS (tY m to c r ok).s:=by
 obtain ⟨a,b⟩:=ZA h c;exact xA (xA a r b) ok (Ya _)
theorem Uo {m:PM} (h:WS m.s) (x:iG):WS (bG m x).1.s:=by
 have f:=λr=>zk (h.at m.g) r;have i:=λk=>getD_in h.vars k;have d:WS (jJ m x).s:=by unfold jJ;split;{exact h.setVar _ (f _)};exact h
 have e:WS (jH m x).s:=by unfold jH;split;{exact h.setOwn _};exact h
 unfold bG;split
 ·exact xA (m:=dK m (jD m.s x.b)) h _ (i _)
 split
 ·exact h.setVar _ (f _)
 split
 ·exact (xA (m:=dK m (bn (aC m) x.c)) h x.a (v:=jD m.s x.b) (i _)).setVar _ (qc _)
 split
 ·exact xA d _ (Ya _)
 split
 ·exact h
 split
 ·exact h.setOwn _
 split
 ·split;{exact h.fB (FQ _ _ _)};exact h.setOwn _
 split
 ·exact xA e _ (Ya _)
 exact h
theorem WB {p:ak} {m:PM} (h:WS m.s) (hc:0<=m.s.count/\m.s.count<=6) (x:iG) (q:rZ) (alt:Int):WS (ou p m x q alt).s:=by
 have c:=λr=>zk (h.at m.g) r;unfold ou;split
 ·exact (h.cu (x:={ bW m.s x.a with offer:=0,frm:=0,val:=0}) ⟨(h.chW _).1,VD⟩).fB (h.at m.g)
 split
 ·exact Nb h _ _ (c _)
 split
 ·exact Nc h _ _ _ _
 split
 ·unfold vI;split;{exact h};unfold oq;split;{exact h.fB (FQ _ _ _)};split;{exact h.cu ⟨(h.chW _).1,VD⟩};exact h.cu (h.chW _)
 split
 ·unfold ru;split;{exact h};rename_i e;rw [show (iD (jv p m x).1 ((aC m).pc+1)).s=(jv p m x).1.s from rfl,jv,xw e];refine xA (m:=jM p m x) ⟨h.vars,h.ch,λg hg=>?_⟩ _ (qV (by omega) (by omega));rcases ad1 hg with b | b;{exact h.go g b};rw [b];intro v d;obtain ⟨i,_,rfl⟩:=List.mem_map.1 (show v∈yR _ _ _ from d);split;{exact c _};exact VD
 split
 ·unfold zi;split <;> exact h
 split
 ·exact h
 split
 ·unfold BZ;split;{exact h};split;{exact Nb h _ _ (c _)};exact Nc h _ _ _ _
 unfold y8;split;{exact h};exact Uo h x
theorem Au:WS st0:=by
 refine ⟨λv a=>?_,λc hc=>?_,λg hg=>?_⟩
 ·(have:v=0:=by simpa [st0]using a);rw [this];exact VD
 ·(have:c=BG:=by simpa [st0]using hc);rw [this];refine ⟨λv a=>?_,VD⟩;(have:v=0:=by simpa [BG]using a);rw [this];exact VD
 (have:g=go0:=by simpa [st0]using hg);rw [this];exact O4
theorem DR {p:ak} {s:cZ} (hw:uM p) (h:WS s) (g n:Int):WS (bZ p s g n).1:=by
 unfold bZ;split
 ·exact Au
 split
 ·exact Au
 split
 ·exact Au
 split
 ·exact Au
 split
 ·exact h.fB (Lp (hw.fn _) _ (h.at g))
 exact h
theorem WC {p:ak} (hw:uM p) (n:Int):WS (dJ p n).1:=by
 unfold dJ;split
 ·exact Au
 split
 ·exact Au
 refine ⟨λv b=>?_,Au.ch,λg hg=>?_⟩;{obtain ⟨i,_,rfl⟩:=List.mem_map.1 (show v∈lM p p.vars.length from b);split;{rename_i hi;rw [aae,Y0 hi];exact hw.1 _ (acr _)};exact VD};(have a:g=lV (aV p 0) n.toNat live0\/g=go0:=by simpa [PX]using hg);rcases a with rfl | rfl;{exact Lp (hw.fn go0) _ O4};exact O4
def Zw (m m':PM):Prop:=m'.g=m.g/\m'.fuel=m.fuel/\m'.over=m.over/\m'.s.count=m.s.count
theorem ni (m:PM):Zw m m:=⟨rfl,rfl,rfl,rfl⟩
theorem Di {a b c:PM} (d:Zw a b) (e:Zw b c):Zw a c:=⟨e.1.trans d.1,e.2.1.trans d.2.1,e.2.2.1.trans d.2.2.1,e.2.2.2.trans d.2.2.2⟩
theorem xZ (m:PM) (r v:Int):Zw m (bU m r v):=by unfold bU;split <;> exact ni _
structure MD (m:PM) (D:RD) (r:PM×Int×Int):Prop where
 fail:D.why≠0->r.1.over=true/\r.1.val=0/\r.1.s={ D.s with gos:=D.s.gos.set m.g.toNat (kP (goI D.s m.g) 4 D.why) }
 wait:D.why=0->D.to<0->r.1.over=true/\r.1.s=D.s/\r.1.val=D.val
 run:D.why=0->0<=D.to->r.1=⟨D.s,m.g,m.fuel,D.val,false⟩/\r.2.1=D.to/\(r.2.2 = -1/\D.s.count=m.s.count\/r.2.2=m.s.count/\D.s.count=m.s.count+1)
theorem xU {m m':PM} {to:Int} (d:m.over=false) (hk:Zw m m') (ht:0<=to):MD m (iD m' to) (m',to,-1) :=
 ⟨λh=>absurd rfl h,λ_ h=>absurd ht (by show ¬ 0<=(iD m' to).to;omega),λ_ _=>⟨by
  obtain ⟨a,b,c,_⟩:=hk;obtain ⟨s,g,f,v,o⟩:=m';simp only at a b c;rw [a,b,c,d],rfl,.inl ⟨rfl,hk.2.2.2⟩⟩⟩
theorem zU {m b:PM} {why nx mk:Int} {D:RD} (a:D.why=why) (c:D.s=b.s) (hg:b.g=m.g) (hw:why≠0):MD m D (kC b why,nx,mk) :=
 ⟨λ_=>⟨rfl,rfl,by rw [a,c,<- hg];rfl⟩,λh=>absurd (a▸h) hw,λh=>absurd (a▸h) hw⟩
theorem Qq {m:PM} {x:iG} (h:50<=x.op/\x.op<=57):(bG m x).2=true:=by
 unfold bG;repeat' split
 all_goals first | rfl | (exfalso;omega)
theorem lX {m:PM} {x:iG} (h:¬ (50<=x.op/\x.op<=57)):(bG m x).2=false:=by
 unfold bG;repeat' split
 all_goals first | rfl | (exfalso;omega)
theorem VA {m:PM} {x:iG} (h:¬ (x.op=56/\mJ m.s x.a≠m.g+1)):Zw m (bG m x).1:=by
 have hc:Zw m (jJ m x):=by unfold jJ;split <;> exact ni _
 have ht:Zw m (jH m x):=by unfold jH;split <;> exact ni _
 unfold bG;split
 ·exact xZ (dK m (jD m.s x.b)) _ _
 split
 ·exact ni _
 split
 ·exact xZ (dK m (bn (aC m) x.c)) x.a (jD m.s x.b)
 split
 ·exact Di hc (xZ _ _ _)
 split
 ·exact ni _
 split
 ·exact ni _
 split
 ·rename_i e;split;{rename_i hl;exact absurd ⟨e,hl⟩ h};exact ni _
 split
 ·exact Di ht (xZ _ _ _)
 exact ni _
theorem aaz (m:PM) (c:Int):Zw m (dH m c).1:=by
 unfold dH;split
 ·exact ni _
 split <;> exact ni _
theorem Tt {m:PM} (a:m.over=false) {to c r ok:Int} (ht:0<=to):MD m (tY m to c r ok) (bU (bU (dH m c).1 r (dH m c).1.val) ok (iC (dH m c).2),to,-1) :=
 xU a (Di (aaz m c) (Di (xZ _ _ _) (xZ _ _ _))) ht
theorem Tq {p:ak} {m:PM} (a:m.over=false) {to c v:Int} (ht:0<=to):MD m (oJ p m to c v) (iT p m c v,to,-1):=by
 unfold oJ;by_cases hc:(bW m.s c).closed=true
 ·rw [aa2 hc,iT,aa2 hc];exact zU rfl rfl rfl (by decide)
 rw [xw hc];by_cases hp:0<p.chans.getD c.toNat 0;{(have e:(⟨(iT p m c v).s,v,0,if 0<p.chans.getD c.toNat 0 then to else -1⟩:RD)=iD (iT p m c v) to:=by rw [aa2 hp,iT,xw hc,aa2 hp]);rw [e];refine xU a ?_ ht;rw [iT,xw hc,aa2 hp];exact ni _};refine ⟨λh=>absurd rfl h,λ_ _=>?_,λ_ h=>absurd h (by show ¬ (0:Int)<=(if 0<p.chans.getD c.toNat 0 then to else -1);rw [xw hp];decide)⟩;rw [iT,xw hc,xw hp];exact ⟨rfl,rfl,rfl⟩
theorem Ye (m:PM) {r v:Int} (h:r<0):bU m r v=m:=xw (by omega)
theorem P9 {p:ak} {s:cZ} {g alt:Int} (a:alt∈iR p s g) (h:(aU p s g).op=61) (e:alt=(bJ p s g).cases.length):(bJ p s g).els ≠ -1:=by
 rw [iR,xw (by simp [h]),kL]at a;have b:alt∉fU p s (bJ p s g) (bJ p s g).cases.length:=λhm=>by obtain ⟨j,c,d,_⟩:=uH.1 hm;omega
 split at a
 ·rename_i hb;rw [abf]at hb;simpa using hb.2
 exact absurd a b
theorem DU {p:ak} {s:cZ} {g n alt:Int} (h:dZ p s g) (ha:alt∈iR p s g):MD (jK s g n) (ou p (jK s g n) (aU p s g) (bJ p s g) alt) (pX p (jK s g n) (aU p s g) alt):=by
 have b7:=h.fit.2.2.1;unfold aZ at b7;have a4:=DJ ha;have a6:=h.sel;have b6:(aU p s g).op≠66->nR (aU p s g).op=true\/yQ (aU p s g).op=true:=λe=>by rw [h.at.ins e];exact h.ins.op
 have c0:(aU p s g).op≠61->jd p s g=true:=λe=>(Ac ha e).1;have a5:aO (bP p (goI s g)) (aU p s g).a.toNat=bJ p s g:=rfl;have c4:=h.valid.2.1;have a2:(aU p s g).op≠66->50<=(aU p s g).op:=λe=>by rcases b6 e with h1 | h1;{by_cases k:(aU p s g).op=61;{omega};have h2:=c0 k;unfold nR at h1;unfold jd at h2;simp only [adP,abf,acf]at h1;rw [xw (by omega),xw (by omega),xw (by omega),xw (by omega),xw (by omega),xw (by omega)]at h2;unfold yQ at h2;simp only [abf,acf]at h2;omega};unfold yQ at h1;simp only [abf,acf]at h1;omega
 obtain ⟨m,hm⟩:∃ m,jK s g n=m:=⟨_,rfl⟩;have u:m.over=false:=by rw [<- hm];rfl
 have b5:m.s=s:=by rw [<- hm];rfl
 have b4:m.g=g:=by rw [<- hm];rfl
 have c6:m.val=0:=by rw [<- hm];rfl
 rw [hm];subst b5 b4;obtain ⟨x,hx⟩:∃ x,aU p m.s m.g=x:=⟨_,rfl⟩;obtain ⟨q,hq⟩:∃ q,bJ p m.s m.g=q:=⟨_,rfl⟩;rw [hx]at a4 a6 a2 a5 ⊢;rw [hq]at a4 a6 a5 ⊢;have b:0<=(aC m).pc+1:=by show 0<=(goI m.s m.g).pc+1;omega
 unfold ou pX;by_cases i:x.op=66
 ·rw [aa2 i,lX (by omega),xw (by decide),xw (by omega),xw (by omega),aa2 i,xI,qK];by_cases a0:(bW m.s x.a).offer=3;{rw [aa2 a0,aa2 a0];exact zU rfl rfl rfl (by decide)};rw [xw a0,xw a0];exact xU u ⟨rfl,rfl,rfl,rfl⟩ b
 rw [xw i];have c5:=a2 i;by_cases d:x.op=58
 ·rw [aa2 d,lX (by omega),xw (by decide),aa2 d];exact Tq u b
 rw [xw d];by_cases j:x.op=59
 ·rw [aa2 j,lX (by omega),xw (by decide),xw d,aa2 j];exact Tt u b
 rw [xw j];by_cases l:x.op=60
 ·rw [aa2 l,lX (by omega),xw (by decide),xw d,xw j,xw i,aa2 l];unfold vI;by_cases hc:(bW m.s x.a).closed=true;{rw [aa2 hc,oq,aa2 hc];exact zU rfl rfl rfl (by decide)};rw [xw hc];refine xU u ?_ b;rw [oq,xw hc];split <;> exact ni _
 rw [xw l];by_cases t:x.op=62
 ·rw [aa2 t,lX (by omega),xw (by decide),xw d,xw j,xw i,xw l,xw (by omega),aa2 t];unfold ru;by_cases hc:m.s.count=6;{rw [aa2 hc,jv,aa2 hc];exact zU rfl rfl rfl (by decide)};rw [xw hc,jv,xw hc];have hk:=xZ (jM p m x) x.a m.s.count;refine ⟨λh=>absurd rfl h,λ_ h=>absurd h (by show ¬ (aC m).pc+1<0;omega),λ_ _=>⟨?_,rfl,.inr ⟨rfl,hk.2.2.2⟩⟩⟩;obtain ⟨h1,h2,h3,_⟩:=hk;show bU (jM p m x) x.a m.s.count=_;generalize bU (jM p m x) x.a m.s.count=m' at *;obtain ⟨s,g,f,v,o⟩:=m';simp only at h1 h2 h3;rw [h1,h2,h3];show (⟨s,m.g,m.fuel,v,m.over⟩:PM)=⟨s,m.g,m.fuel,v,false⟩;rw [u]
 rw [xw t];by_cases w:x.op=63
 ·rw [aa2 w,lX (by omega),xw (by decide),xw d,xw j,xw i,xw l,xw (by omega),xw t,aa2 w];unfold zi;by_cases ht:jL m.s m.g (bn (aC m) x.a)=true;{rw [aa2 ht,aa2 ht];exact xU (m':=dK m (bn (aC m) x.a)) u ⟨rfl,rfl,rfl,rfl⟩ b};rw [xw ht,xw ht];exact zU rfl rfl rfl (by decide)
 rw [xw w];by_cases z:x.op=65
 ·rw [aa2 z,lX (by omega),xw (by decide),xw d,xw j,xw i,xw l,xw (by omega),xw t,xw w,aa2 z];exact xU (m':=dK m (bn (aC m) x.a)) u ⟨rfl,rfl,rfl,rfl⟩ b
 rw [xw z];by_cases k:x.op=61
 ·rw [aa2 k,lX (by omega),xw (by decide),xw d,xw j,xw i,xw l,aa2 k];have b9:aO (bP p (aC m)) x.a.toNat=q:=a5;rw [b9];obtain ⟨_,a8⟩:=a6 k;obtain ⟨c3,_⟩:=a4 k;unfold BZ jl;by_cases y:alt=q.cases.length;{rw [aa2 y,aa2 y];(have a7:q.els ≠ -1:=by rw [<- hq];exact P9 ha (by rw [hx];exact k) (by rw [hq];exact y));have hb:=a8.els a7;unfold aZ at hb;exact xU (m':=m) u (ni m) hb.1};rw [xw y,xw y];have b3:=a8.case (aA q alt.toNat) (by unfold aA;rw [aae,Y0 (show alt.toNat<q.cases.length by omega)];exact acr _);have hb:=b3.to;unfold aZ at hb;by_cases hs:(aA q alt.toNat).send=true;{rw [aa2 hs,aa2 hs];exact Tq u hb.1};rw [xw hs,xw hs];have:=Tt (m:=m) (c:=(aA q alt.toNat).chan) (r:=(aA q alt.toNat).reg) (ok := -1) u hb.1;rw [Ye _ (by decide)]at this;exact this
 rw [xw k];unfold y8;by_cases h5:50<=x.op/\x.op<=57
 ·rw [Qq h5,aa2 rfl];by_cases hf:x.op=56/\mJ m.s x.a≠m.g+1;{rw [aa2 hf];(have e:(bG m x).1=kC m 6:=by obtain ⟨b1,hl⟩:=hf;rw [bG,xw (by omega),xw (by omega),xw (by omega),xw (by omega),xw (by omega),xw (by omega),aa2 b1,aa2 hl]);rw [e];exact zU rfl rfl rfl (by decide)};rw [xw hf];exact xU u (VA hf) b
 have a9:=lX (m:=m) h5;rw [xw (show ¬ (x.op=56/\mJ m.s x.a≠m.g+1)from λhh=>by omega),a9,xw (by decide),xw d,xw j,xw i,xw l,xw k,xw t,xw w,xw z,(JA a9).1];exact xU (m':=m) u (ni m) b
def Iw (p:ak) (s:cZ) (x:bF) (val:Int) (k:Nat):Wv:={ kY p s x val with ts:=((dM p s x.go).take k).map BT.t,n:=0}
theorem YR {p:ak} {s:cZ} {x:bF} {val:Int} {k:Nat} (h:k<=(dM p s x.go).length):(Iw p s x val k).ts.length=k:=by
 show (((dM p s x.go).take k).map BT.t).length=k;rw [ad5,adn];omega
theorem Vb (p:ak) (s:cZ) (x:bF) (val:Int) (h:dZ p s x.go):AC Tryz.prog T aH 210 [aj p,encS s,aT x,.int val] [] (iJ (kY p s x val)) []:=by
 refine aX Tryz.func210 ?_;have hg:=h.pos;have j:=Gj h;refine sg rfl (sq ?_);refine WP.ent (st':=aN [(4,.rp 26 (aj p)),(5,.rp 62 (encS s)),(6,.rp 122 (aT x)),(3,.int val),(8,.ptr (.s 8 0) 1 0 [])] [(.s 8 0,.cells ⟨137,1,λ_=>(T 137).zero,0⟩)]) (em [(.s 4 0,1),(.s 5 0,1),(.s 6 0,1)] ⟨sF,sF,sF,tt⟩ ⟨rq,rq,rq,cq,cq,tt⟩ ⟨obs rfl,tt⟩) ?_;refine rgs [CG.pure (aQ (insOf p (goI s x.go)))] rfl ?_ ?_
 ·have i:=wu p s x.go h;exact au
 refine sq (wF [(.s 9 0,1)] ⟨sF,tt⟩ [(3,.int val),(4,.rp 26 (aj p)),(5,.rp 62 (encS s)),(6,.rp 122 (aT x)),(8,.ptr (.s 8 0) 1 0 []),(9,.rp 120 (aQ (insOf p (goI s x.go))))] [(.s 8 0,.cells ⟨137,1,λ_=>(T 137).zero,0⟩)] ⟨cq,cq,cq,cq,cq,⟨rfl,_,rfl,bM rfl rfl (by decide) rfl (aG _ _) rfl⟩,tt⟩ ⟨obs rfl,tt⟩ ?_);refine drs [CG.pure (.int (aU p s x.go).op)] rfl ?_ ?_
 ·have i:=Eb p s x.go h;exact au
 refine WP.seqJ (α:=Unit) (λ_=>aN [(4,.rp 26 (aj p)),(5,.rp 62 (encS s)),(6,.rp 122 (aT x)),(8,.ptr (.s 8 0) 1 0 []),(10,.ptr (.s 10 0) 1 0 [])] [(.s 8 0,.cells ⟨137,1,λ_=>(T 137).zero,0⟩),(.s 10 0,.cells ⟨137,1,λ_=>iJ (Iw p s x val 0),0⟩)]) (λ_=>True) ?_ ?_
 ·refine sq (wE [(4,.rp 26 (aj p)),(5,.rp 62 (encS s)),(6,.rp 122 (aT x)),(8,.ptr (.s 8 0) 1 0 []),(9,.rp 120 (aQ (insOf p (goI s x.go)))),(10,.ptr (.s 10 0) 1 0 [])] [(.s 8 0,.cells ⟨137,1,λ_=>(T 137).zero,0⟩),(.s 10 0,.cells ⟨137,1,λ_=>iJ ⟨x.go,(goI s x.go).func,(goI s x.go).pc,(aU p s x.go).op,x.alt,val,0,[],0⟩,0⟩)] ⟨obs rfl,obs rfl (hg:=q0 (ah ((aG _ _).trans ((ac8 (λz=>AV.put z [5] (.int val)) (Ua x.go (goI s x.go).func (goI s x.go).pc (aU p s x.go).op x.alt)).trans (Oz _ _))))),tt⟩ ?_);refine rg [] rfl (cd rfl (λc=>?_) (λc=>?_));{(have e:(aU p s x.go).op=65:=by simpa using c);(have hn:(insOf p (goI s x.go)).n=(aU p s x.go).n:=by rw [h.at.ins (by omega)]);refine rg [] rfl ⟨(),?_,?_⟩;{trivial};refine eX cX ⟨obs rfl,obs rfl (hg:=q0 (ah ((OA _ _).trans (by rw [Iw,kY,aa2 e,hn];rfl)))),tt⟩};(have e:¬ (aU p s x.go).op=65:=by simpa using c);refine sk ⟨(),?_,?_⟩;{trivial};refine eX cX ⟨obs rfl,obs rfl (hg:=q0 (ah (by rw [Iw,kY,xw e];rfl))),tt⟩
 rintro _ f;refine sq (rgs [CG.pure (rowA (dM p s x.go))] rfl ?_ ?_);{have i:=JE p s x.go h;exact au};refine sq (sq (rg [] rfl ?_));refine bk (WP.loop (α:=Nat) (λk=>aN [(8,.ptr (.s 8 0) 1 0 []),(10,.ptr (.s 10 0) 1 0 []),(11,rowA (dM p s x.go)),(12,.int k)] [(.s 8 0,.cells ⟨137,1,λ_=>(T 137).zero,0⟩),(.s 10 0,.cells ⟨137,1,λ_=>iJ (Iw p s x val k),0⟩)]) (λk=>k<=(dM p s x.go).length) (λk=>(dM p s x.go).length - k) ?_ ?_);{refine ⟨0,?_,?_⟩;{exact abq _};refine eX cX ⟨obs rfl,obs rfl,tt⟩};rintro k hk;refine sq (sq (rg [] rfl ?_));refine cd rfl (λd=>?_) (λd=>?_);{(have a:k<(dM p s x.go).length:=by simp [-List.getD_eq_getElem?_getD]at d;omega);have hlen:=YR (val:=val) hk;refine sk (sq (bk (rgs [] rfl ?_ ?_)));{exact au};(have b:(iJ (Iw p s x val k)).put [7,k] (fJ ((dM p s x.go).getD k jS))=iJ (Iw p s x val (k+1)):=by have g:=Tf (Iw p s x val k) (t:=((dM p s x.go).getD k jS).t) (by rw [hlen];omega);rw [hlen]at g;refine g.trans ?_;(have e:(Iw p s x val k).ts++[((dM p s x.go).getD k jS).t]=(Iw p s x val (k+1)).ts:=by show ((dM p s x.go).take k).map BT.t++_=((dM p s x.go).take (k+1)).map BT.t;rw [aei,Y0 a,List.map_append,aae,Y0 a];rfl);rw [e];rfl);refine rg [] rfl ⟨k+1,?_,?_,?_⟩;{exact a};{refine eX cX ⟨obs rfl,obs rfl (hg:=q0 (ah b)),tt⟩};(try simp only []);first | omega | grind};(have a:k=(dM p s x.go).length:=by simp [-List.getD_eq_getElem?_getD]at d;omega);subst a;refine xt (sq (rg [] rfl ?_));refine sg rfl (rX ?_);refine aW hT rfl rfl rfl rfl rfl (ah ((aG _ _).trans ((XP _ _).trans ?_))) rfl rfl rfl;rw [Iw,adX];rfl
theorem Z5 (p:ak) (s:cZ) (x:bF) (f:oh s) (g:dF p s):AC Tryz.prog T aH 148 [aj p,encS s,aT x] [] (.bool (decide (x.alt∈lU p s x.go))) []:=by
 refine aX Tryz.func148 ?_;refine sg rfl (sq ?_);refine WP.ent (st':=aN [(3,.rp 26 (aj p)),(4,.rp 62 (encS s)),(5,.rp 122 (aT x))] []) (em [(.s 3 0,1),(.s 4 0,1),(.s 5 0,1)] ⟨sF,sF,sF,tt⟩ ⟨rq,rq,rq,tt⟩ trivial) ?_;refine rgs [CG.pure (ints false (lU p s x.go))] rfl ?_ ?_
 ·have h:=Oq p s x.go f g;exact au
 refine sq (sq ?_);refine WP.rowlen 7 rfl (λhl=>?_);refine rg [] rfl (bk ?_);refine WP.loop (α:=Nat) (λi=>aN [(5,.rp 122 (aT x)),(7,ints false (lU p s x.go)),(8,.int i)] []) (λi=>i<=(lU p s x.go).length/\x.alt∉(lU p s x.go).take i) (λi=>(lU p s x.go).length - i) ?_ ?_
 ·refine ⟨0,?_,?_⟩;{exact ⟨abq _,by simp⟩};refine eX cX trivial
 rintro i ⟨hi,hn⟩;refine sq (sq (rg [] rfl ?_));refine cd rfl (λd=>?_) (λd=>?_);{(have a:i<(lU p s x.go).length:=by simp [-List.getD_eq_getElem?_getD]at d;omega);(have e:(lU p s x.go).take (i+1)=(lU p s x.go).take i++[(lU p s x.go).getD i 0]:=by rw [aei,Y0 a,aae,Y0 a];rfl);refine sk (sq (bk (sq (drs [] rfl ?_ ?_))));{exact au};refine cd rfl (λb=>?_) (λb=>?_);{(have he:(lU p s x.go).getD i 0=x.alt:=by simp [-List.getD_eq_getElem?_getD]at b;exact b);refine sg rfl (rX ?_);refine fin1 hT (by rfl) ?_;symm;refine adx (List.mem_of_mem_take (i:=i+1) ?_);rw [e,he];simp};(have he:¬ (lU p s x.go).getD i 0=x.alt:=by simp [-List.getD_eq_getElem?_getD]at b;exact b);refine sk (rg [] rfl ?_);refine ⟨i+1,?_,?_,?_⟩;{refine ⟨a,?_⟩;rw [e];simp only [ae4,List.mem_singleton];rintro (c | c);{exact hn c};exact he c.symm};{refine eX cX trivial};(try simp only []);first | omega | grind};(have a:i=(lU p s x.go).length:=by simp [-List.getD_eq_getElem?_getD]at d;omega);rw [a,adX]at hn;refine xt (sq (rg [] rfl ?_));exact WP.ret (fin1 hT (by rfl) (acB hn).symm)
theorem YA {s:cZ} {g:Int} {x:iW} (hl:g.toNat<s.gos.length):goI { s with gos:=s.gos.set g.toNat x} g=x:=by
 show (s.gos.set g.toNat x).getD g.toNat go0=x;rw [aae,List.getElem?_set_self hl];rfl
theorem BQ (p:ak) (s:cZ) (g n:Int):(bZ p s g n).1.count=s.count\/(bZ p s g n).1=st0:=by
 unfold bZ;split
 ·exact .inr rfl
 split
 ·exact .inr rfl
 split
 ·exact .inr rfl
 split
 ·exact .inr rfl
 split
 ·exact .inl rfl
 exact .inl rfl
theorem ZI (p:ak):¬ dF p st0:=λh=>by have:=h.2.1.1;exact absurd this (by decide)
theorem Qr (p:ak) (g n:Int):(bZ p st0 g n).1=st0:=by
 unfold bZ;split
 ·rfl
 rw [aa2 (ZI p)]
abbrev Gh (p:ak) (s:cZ) (x:bF) (n:Int):RD:=ou p (jK s x.go n) (aU p s x.go) (bJ p s x.go) x.alt
theorem OJ {p:ak} {m:PM} (h:mX m) (to c v:Int):oh (oJ p m to c v).s:=by
 unfold oJ;split
 ·exact h.s
 exact (Hu h c v).s
theorem aai {p:ak} {m:PM} (h:mX m) (x:iG) (q:rZ) (alt:Int):oh (ou p m x q alt).s:=by
 have b:∀ to c r ok,oh (tY m to c r ok).s:=λ_ _ _ _=>(pq (pq (um h _) _ _) _ _).s;unfold ou;split
 ·exact (xQ h x.a).s
 split
 ·exact OJ h _ _ _
 split
 ·exact b _ _ _ _
 split
 ·unfold vI;split;{exact h.s};exact (OL h _).s
 split
 ·unfold ru;split;{exact h.s};exact (JO h x).s
 split
 ·unfold zi;split <;> exact h.s
 split
 ·exact h.s
 split
 ·unfold BZ;split;{exact h.s};split;{exact OJ h _ _ _};exact b _ _ _ _
 unfold y8;split;{exact h.s};exact (Ht h x).s
theorem Xp (p:ak) (s:cZ) (x:bF) (n:Int) (h:dZ p s x.go) (hx:x.alt∈iR p s x.go) (hn:0<=n/\n<=4096) (hw:uM p) (b7:WS s):AC Tryz.prog T aH 149 [aj p,encS s,aT x,.int n] [] (.tup [encS (pY p s x n).1,iJ (pY p s x n).2.1]) []:=by
 refine aX Tryz.func149 ?_;have hg:=h.pos;have c5:=h.valid.2.1;have b2:pY p s x n=((rM p (nV p s x n).1 (nV p s x n).2.1 (nV p s x n).2.2).s,kY p s x (nV p s x n).1.val,0):=by rw [pY,xw (by rw [mM,xw (by rw [h.valid.1];decide),xw (λhh=>hh h.valid)];decide),xw (λhh=>hh hn),xw (λhh=>hh ⟨h.pos,h.live,hx⟩)]
 have k:MD (jK s x.go n) (Gh p s x n) (nV p s x n):=DU h hx;have t:WS (Gh p s x n).s:=WB (m:=jK s x.go n) b7 (by show 0<=s.count/\s.count<=6;omega) _ _ _;have d:oh (Gh p s x n).s:=aai (Hw h.ok h.pos) _ _ _;have b6:AC Tryz.prog T aH 209 [aj p,encS s,.int x.go,.int x.alt] [] (eH (Gh p s x n)) []:=ZP p s x.go n x.alt h hx;have z:=λv=>Vb p s x v h;rw [b2];obtain ⟨D,hD⟩:∃ D,Gh p s x n=D:=⟨_,rfl⟩;rw [hD]at k t d b6;obtain ⟨r,hr⟩:∃ r,nV p s x n=r:=⟨_,rfl⟩;rw [hr]at k ⊢;have c6:=d.gos;have c:x.go.toNat<D.s.gos.length:=by omega
 refine sg rfl (sq ?_);refine WP.ent (st':=aN [(4,.rp 26 (aj p)),(5,.rp 62 (encS s)),(6,.rp 122 (aT x)),(3,.int n),(8,.ptr (.s 8 0) 1 0 []),(9,.ptr (.s 9 0) 1 0 [])] [(.s 8 0,.cells ⟨62,1,λ_=>(T 62).zero,0⟩),(.s 9 0,.cells ⟨137,1,λ_=>(T 137).zero,0⟩)]) (em [(.s 4 0,1),(.s 5 0,1),(.s 6 0,1)] ⟨sF,sF,sF,tt⟩ ⟨rq,rq,rq,cq,cq,cq,tt⟩ ⟨obs rfl,obs rfl,tt⟩) ?_;refine rg [] rfl (sq (rgs [CG.pure (eH D)] rfl ?_ ?_))
 ·exact au
 refine sq (sq ?_);refine wE [(3,.int n),(4,.rp 26 (aj p)),(5,.rp 62 (encS s)),(6,.rp 122 (aT x)),(8,.ptr (.s 8 0) 1 0 []),(9,.ptr (.s 9 0) 1 0 []),(10,.int x.go),(11,.ptr (.s 11 0) 1 0 [])] [(.s 8 0,.cells ⟨62,1,λ_=>(T 62).zero,0⟩),(.s 9 0,.cells ⟨137,1,λ_=>(T 137).zero,0⟩),(.s 11 0,.cells ⟨301,1,λ_=>eH D,0⟩)] ⟨obs rfl,obs rfl,obs rfl (hg:=q0 (ah (aG _ _))),tt⟩ (rg [] rfl ?_);refine cd rfl (λh3=>?_) (λh3=>?_)
 ·(have w:D.why≠0:=by simp [-List.getD_eq_getElem?_getD]at h3;exact h3);obtain ⟨f1,f2,f3⟩:=k.fail w;refine sq (rgs [] rfl ?_ ?_);{exact au};refine sq (rgs [] rfl ?_ ?_);{exact au};refine sq (rgs [] rfl ?_ ?_);{exact au};refine sq ?_;(have a9:∀ (g1 g2:iW) (q:List Nat) (y:AV),(bV g1).put q y=bV g2->(eH { D with s:={ D.s with gos:=D.s.gos.set x.go.toNat g1} }).put (0::3::x.go.toNat::q) y=eH { D with s:={ D.s with gos:=D.s.gos.set x.go.toNat g2} }:=λg1 g2 q y e=>by rw [jR (ng (s:={ D.s with gos:=D.s.gos.set x.go.toNat g1}) (by show x.go.toNat<(D.s.gos.set x.go.toNat g1).length;rw [adI];exact c) (g:=g2) (by rw [show ({ D.s with gos:=D.s.gos.set x.go.toNat g1}:cZ).gos.getD x.go.toNat go0=g1 from YA c];exact e))];simp only [List.set_set]);(have b3:(((eH D).put [0,3,x.go.toNat,0] (.int 4)).put [0,3,x.go.toNat,3] (.int D.why)).put [0,3,x.go.toNat,4] (.agg 52 8 λ_=>AV.int 0)=eH { D with s:={ D.s with gos:=D.s.gos.set x.go.toNat (kP (goI D.s x.go) 4 D.why) } }:=by rw [jR (ng c (gI _ 4)),a9 _ _ _ _ (Ec _ D.why),Gf,a9 _ _ _ _ (GZ _ z8)];rfl);refine wE [(4,.rp 26 (aj p)),(5,.rp 62 (encS s)),(6,.rp 122 (aT x)),(8,.ptr (.s 8 0) 1 0 []),(9,.ptr (.s 9 0) 1 0 []),(11,.ptr (.s 11 0) 1 0 [])] [(.s 8 0,.cells ⟨62,1,λ_=>(T 62).zero,0⟩),(.s 9 0,.cells ⟨137,1,λ_=>(T 137).zero,0⟩),(.s 11 0,.cells ⟨301,1,λ_=>eH { D with s:={ D.s with gos:=D.s.gos.set x.go.toNat (kP (goI D.s x.go) 4 D.why) } },0⟩)] ⟨obs rfl,obs rfl,obs rfl (hg:=q0 (ah b3)),tt⟩ (drs [CG.pure (iJ (kY p s x 0))] rfl ?_ ?_);{have hq:=z 0;exact au};refine rX ?_;(have e:(rM p r.1 r.2.1 r.2.2).s={ D.s with gos:=D.s.gos.set x.go.toNat (kP (goI D.s x.go) 4 D.why) }:=by rw [rM,aa2 f1,f3];rfl);rw [e,f2];exact aJ hT [(.s 8 0,1),(.s 9 0,1)] (ts:=[(8,.rp 62 (encS { D.s with gos:=D.s.gos.set x.go.toNat (kP (goI D.s x.go) 4 D.why) })),(9,.rp 137 (iJ (kY p s x 0)))]) (l:=[encS { D.s with gos:=D.s.gos.set x.go.toNat (kP (goI D.s x.go) 4 D.why) },iJ (kY p s x 0)]) ⟨sF,sF,tt⟩ ⟨⟨rfl,_,rfl,bM rfl rfl (by simp [dW,aS]) rfl (aG _ _) rfl⟩,⟨rfl,_,rfl,bM rfl rfl (by simp [dW,Id.beq]) rfl (aG _ _) (qm _)⟩,tt⟩ trivial rfl rfl rfl
 (have w:D.why=0:=by simp [-List.getD_eq_getElem?_getD]at h3;exact h3);refine sk (sq (rgs [CG.pure (iJ (kY p s x D.val))] rfl ?_ ?_));{have hq:=z D.val;exact au};refine sq (sq ?_);refine wF [(.s 12 0,1)] ⟨sF,tt⟩ [(3,.int n),(4,.rp 26 (aj p)),(5,.rp 62 (encS s)),(8,.ptr (.s 8 0) 1 0 []),(9,.ptr (.s 9 0) 1 0 []),(10,.int x.go),(11,.ptr (.s 11 0) 1 0 []),(12,.rp 137 (iJ (kY p s x D.val)))] [(.s 8 0,.cells ⟨62,1,λ_=>(T 62).zero,0⟩),(.s 9 0,.cells ⟨137,1,λ_=>(T 137).zero,0⟩),(.s 11 0,.cells ⟨301,1,λ_=>eH D,0⟩)] ⟨cq,cq,cq,cq,cq,cq,cq,⟨rfl,_,rfl,bM rfl rfl (by decide) rfl (aG _ _) rfl⟩,tt⟩ ⟨obs rfl,obs rfl,obs rfl,tt⟩ (rg [] rfl ?_);refine cd rfl (λh9=>?_) (λh9=>?_);{(have a3:D.to<0:=by simp [-List.getD_eq_getElem?_getD]at h9;exact h9);obtain ⟨w1,w2,w3⟩:=k.wait w a3;refine sq (dr [] rfl ?_);refine rX ?_;(have e:(rM p r.1 r.2.1 r.2.2).s=D.s:=by rw [rM,aa2 w1,w2]);rw [e,w3];exact aJ hT [(.s 8 0,1),(.s 9 0,1)] (ts:=[(8,.rp 62 (encS D.s)),(9,.rp 137 (iJ (kY p s x D.val)))]) (l:=[encS D.s,iJ (kY p s x D.val)]) ⟨sF,sF,tt⟩ ⟨⟨rfl,_,rfl,bM rfl rfl (by simp [dW,aS]) rfl (aG _ _) rfl⟩,⟨rfl,_,rfl,bM rfl rfl (by simp [dW,Id.beq]) rfl (aG _ _) (qm _)⟩,tt⟩ trivial rfl rfl rfl};(have a3:0<=D.to:=by simp [-List.getD_eq_getElem?_getD]at h9;omega);obtain ⟨r1,r2,r3⟩:=k.run w a3;(have o:r.1.s=D.s/\r.1.g=x.go/\r.1.fuel=n/\r.1.val=D.val/\r.1.over=false:=by rw [r1];exact ⟨rfl,rfl,rfl,rfl,rfl⟩);refine sk (sq (rgs [] rfl ?_ ?_));{exact au};refine sq ?_;obtain ⟨i,hs1⟩:∃ i:cZ,i={ D.s with gos:=D.s.gos.set x.go.toNat { goI D.s x.go with pc:=D.to} }:=⟨_,rfl⟩;(have a0:oh i:=by rw [hs1];exact d.fB (x:={ goI D.s x.go with pc:=D.to}) (gZ d _));(have a1:WS i:=by rw [hs1];exact t.fB (x:={ goI D.s x.go with pc:=D.to}) (t.at x.go));refine wE [(3,.int n),(4,.rp 26 (aj p)),(5,.rp 62 (encS s)),(8,.ptr (.s 8 0) 1 0 []),(9,.ptr (.s 9 0) 1 0 []),(10,.int x.go),(11,.ptr (.s 11 0) 1 0 []),(12,.rp 137 (iJ (kY p s x D.val)))] [(.s 8 0,.cells ⟨62,1,λ_=>(T 62).zero,0⟩),(.s 9 0,.cells ⟨137,1,λ_=>(T 137).zero,0⟩),(.s 11 0,.cells ⟨301,1,λ_=>eH { D with s:=i},0⟩)] ⟨obs rfl,obs rfl,obs rfl (hg:=q0 (ah (by rw [hs1];exact jR (ng c (qj _ D.to))))),tt⟩ (rgs [CG.pure (.tup [encS (bZ p i x.go n).1,.int (bZ p i x.go n).2])] rfl ?_ ?_);{have hq:=GL p i x.go n a0 hw a1;exact au};refine sq (sq ?_);obtain ⟨a,f⟩:∃ a,(bZ p i x.go n).1=a:=⟨_,rfl⟩;(have a8:WS a:=by rw [<- f];exact DR hw a1 _ _);(have a7:oh a:=by rw [<- f];exact sU a0 _ _);have j:=BQ p i x.go n;rw [f]at j;(have c4:i.count=D.s.count:=by rw [hs1]);(have b:(rM p r.1 r.2.1 r.2.2).s=if a.count>s.count then (bZ p a s.count n).1 else a:=by(have e0:fB r.1 { aC r.1 with pc:=r.2.1}=⟨i,x.go,n,D.val,false⟩:=by rw [r1,r2,hs1];rfl);rw [rM,xw (by rw [o.2.2.2.2];decide),e0];rcases r3 with ⟨k1,k2⟩ | ⟨k1,k2⟩;{rw [k1,xw (by decide)];have k3:D.s.count=s.count:=k2;(have b4:¬ a.count>s.count:=by rcases j with h1 | h1;{omega};rw [h1];show ¬ (0:Int)>s.count;omega);rw [xw b4,<- f,o.2.1];rfl};have k3:D.s.count=s.count+1:=k2;have k4:r.2.2=s.count:=k1;rw [k4,aa2 (by omega),o.2.1];show (bZ p (bZ p i x.go n).1 s.count n).1=_;rw [f];rcases j with h1 | h1;{rw [aa2 (by omega)]};rw [xw (by rw [h1];show ¬ (0:Int)>s.count;omega),h1,Qr]);refine wE [(3,.int n),(4,.rp 26 (aj p)),(5,.rp 62 (encS s)),(8,.ptr (.s 8 0) 1 0 []),(9,.ptr (.s 9 0) 1 0 []),(12,.rp 137 (iJ (kY p s x D.val))),(13,.ptr (.s 13 0) 1 0 [])] [(.s 8 0,.cells ⟨62,1,λ_=>(T 62).zero,0⟩),(.s 9 0,.cells ⟨137,1,λ_=>(T 137).zero,0⟩),(.s 13 0,.cells ⟨62,1,λ_=>encS a,0⟩)] ⟨obs rfl,obs rfl,obs rfl (hg:=q0 (ah ((aG _ _).trans (ac8 encS f)))),tt⟩ (rg [] rfl ?_);refine cd rfl (λu=>?_) (λu=>?_);{(have a2:a.count>s.count:=by simp [-List.getD_eq_getElem?_getD]at u;exact u);rw [aa2 a2]at b;refine rgs [CG.pure (.tup [encS (bZ p a s.count n).1,.int (bZ p a s.count n).2])] rfl ?_ ?_;{have hq:=GL p a s.count n a7 hw a8;exact au};refine sq (dr [] rfl ?_);refine rX ?_;rw [b,o.2.2.2.1];exact aJ hT [(.s 8 0,1),(.s 9 0,1)] (ts:=[(8,.rp 62 (encS (bZ p a s.count n).1)),(9,.rp 137 (iJ (kY p s x D.val)))]) (l:=[encS (bZ p a s.count n).1,iJ (kY p s x D.val)]) ⟨sF,sF,tt⟩ ⟨⟨rfl,_,rfl,bM rfl rfl (by simp [dW,aS]) rfl ((aG _ _).trans rfl) rfl⟩,⟨rfl,_,rfl,bM rfl rfl (by simp [dW,Id.beq]) rfl (aG _ _) (qm _)⟩,tt⟩ trivial rfl rfl rfl};(have a2:¬ a.count>s.count:=by simp [-List.getD_eq_getElem?_getD]at u;omega);rw [xw a2]at b;refine sk (sq (dr [] rfl ?_));refine rX ?_;rw [b,o.2.2.2.1];exact aJ hT [(.s 8 0,1),(.s 9 0,1)] (ts:=[(8,.rp 62 (encS a)),(9,.rp 137 (iJ (kY p s x D.val)))]) (l:=[encS a,iJ (kY p s x D.val)]) ⟨sF,sF,tt⟩ ⟨⟨rfl,_,rfl,bM rfl rfl (by simp [dW,aS]) rfl (aG _ _) rfl⟩,⟨rfl,_,rfl,bM rfl rfl (by simp [dW,Id.beq]) rfl (aG _ _) (qm _)⟩,tt⟩ trivial rfl rfl rfl
theorem Vs (ids:List Id) (x:Wv):fZ ids (iJ x)=true:=Ej (λi hi=>by
 match i,hi with
 | 0,_ | 1,_ | 2,_ | 3,_ | 4,_ | 5,_ | 6,_ | 8,_=>rfl
 | 7,_=>exact Ej (λj _=>rfl))
theorem XQ {p:ak} {s:cZ} {x:bF} (c:oh s) (e:dF p s):zq p s x↔x.alt∈lU p s x.go:=by
 unfold zq lU;constructor
 ·rintro ⟨a,b,f⟩;have h:dZ p s x.go:=⟨c,e,b,a⟩;rw [aa2];{exact f};simp only [wP,abf,acf];exact ⟨a.1,h.lt,b⟩
 intro h;split at h;{rename_i hl;have d:=Gp c e hl;exact ⟨d.pos,d.live,h⟩};cases h
theorem Y6 {p:ak} {s:cZ} {x:bF} {n:Int} (a:dF p s):pY p s x n=if ¬ (0<=n/\n<=4096)then (st0,yx,1)else if ¬ zq p s x then (st0,yx,5)else (pY p s x n):=by
 have b:¬ mM p s≠0:=by rw [mM,xw (by rw [a.1];decide),xw (λc=>c a)];decide
 unfold pY;rw [xw b];split
 ·rfl
 split <;> rfl
theorem abJ (p:ak) (s:cZ) (x:bF) (n:Int) (f:oh s) (b:dF p s) (hw:uM p) (i:WS s):AC Tryz.prog T aH 106 [aj p,encS s,aT x,.int n] [] (.tup [encS (pY p s x n).1,iJ (pY p s x n).2.1,.int (pY p s x n).2.2]) []:=by
 refine aX Tryz.func106 ?_;refine sg rfl (sq (sq ?_));refine WP.ent (st':=aN [(4,.rp 26 (aj p)),(5,.rp 62 (encS s)),(6,.rp 122 (aT x)),(3,.int n),(8,.ptr (.s 8 0) 1 0 []),(9,.ptr (.s 9 0) 1 0 [])] [(.s 8 0,.cells ⟨62,1,λ_=>(T 62).zero,0⟩),(.s 9 0,.cells ⟨137,1,λ_=>(T 137).zero,0⟩)]) (em [(.s 4 0,1),(.s 5 0,1),(.s 6 0,1)] ⟨sF,sF,sF,tt⟩ ⟨rq,rq,rq,cq,cq,cq,tt⟩ ⟨obs rfl,obs rfl,tt⟩) ?_;refine rg [] rfl (cd rfl (λd=>?_) (λd=>?_))
 ·(have hn:¬ (0<=n/\n<=4096):=by simp only [fG]at d;simp at d;omega);refine sg rfl (rX ?_);(have e:pY p s x n=(st0,yx,1):=by rw [Y6 b,aa2 hn]);rw [e];exact yu hT rfl rfl rfl rfl rfl (ah ((aG _ _).trans zeroS)) (ah ((aG _ _).trans zeroE)) rfl
 (have hn:0<=n/\n<=4096:=by simp only [fG]at d;simp at d;omega);refine sk (sq (sq (rgs [CG.pure (.bool (decide (x.alt∈lU p s x.go)))] rfl ?_ ?_)));{have j:=Z5 p s x f b;exact au};refine cd rfl (λg=>?_) (λg=>?_);{(have hx:¬ zq p s x:=by rw [XQ f b];simpa using g);refine sg rfl (rX ?_);(have e:pY p s x n=(st0,yx,5):=by rw [Y6 b,xw (λc=>c hn),aa2 hx]);rw [e];exact yu hT rfl rfl rfl rfl rfl (ah ((aG _ _).trans zeroS)) (ah ((aG _ _).trans zeroE)) rfl};(have hx:x.alt∈lU p s x.go:=by simpa using g);have a:=(XQ f b).2 hx;have h:dZ p s x.go:=⟨f,b,a.2.1,a.1⟩;(have he:(pY p s x n).2.2=0:=by rw [pY,xw (by rw [mM,xw (by rw [b.1];decide),xw (λc=>c b)];decide),xw (λc=>c hn),xw (λc=>c a)]);refine sk (sq (rgs [CG.pure (.tup [encS (pY p s x n).1,iJ (pY p s x n).2.1])] rfl ?_ ?_));{have j:=Xp p s x n h a.2.2 hn hw i;exact au};refine sq (dr [] rfl ?_);refine rX ?_;rw [he];exact yu hT rfl rfl rfl rfl rfl (ah ((aG _ _).trans rfl)) (ah ((aG _ _).trans rfl)) rfl (hno':=qm _) (hok':=Vs _ _)
theorem kE {α:Type} {l:List α} {i k:Nat} {x d:α}:(l.set i x).getD k d=if i=k/\k<l.length then x else l.getD k d:=by
 simp only [aae,List.getElem?_set];by_cases h:i=k
 ·subst h;by_cases a:i<l.length;{simp [a]};simp [a,adA (Nat.le_of_not_lt a)]
 simp [h]
def KH (F:gq) (l:List Int):Prop := ∀ k:Nat,k<8->F.regs<=k->l.getD k 0=0
theorem Na {F:gq} {l:List Int} (h:KH F l) {r:Int} (c:0<=r/\r<F.regs) (v:Int):KH F (l.set r.toNat v):=λk a b=>by
 rw [kE,xw (by omega)];exact h k a b
theorem Sj (F:gq):KH F z8:=λk a b=>by
 match k,a with
 | 0,_ | 1,_ | 2,_ | 3,_ | 4,_ | 5,_ | 6,_ | 7,_=>rfl
theorem FV {p:ak} {g:iW} (h:oW p g):KH (bP p g) g.regs:=λk b c=>by
 rcases h.2.2.2.1 k b with a | a
 ·exact a
 ·omega
theorem uy {p:ak} {g:iW} (b:g.status=1\/g.status=2) (hf:aZ g.func p.funcs.length) (hp:aZ g.pc (bP p g).code.length) (hw:g.why=0) (a:KH (bP p g) g.regs):oW p g:=by
 refine ⟨by omega,hf,hp,λk hk=>?_,λh=>by omega,λ_=>hw,λh=>by omega,λh=>by omega⟩;rcases Int.lt_or_le (k:Int) (bP p g).regs with h | h
 ·exact .inr ⟨h,by omega,by omega⟩
 exact .inl (a k hk h)
theorem aa1 (k:Nat):z8.getD k 0=0:=by
 rcases adv k 8 with h | h
 ·exact Sj ⟨0,0,[],[]⟩ k h (by show (0:Int)<=k;omega)
 rw [aae,adA (show z8.length<=k from h)];rfl
theorem Dw {p:ak} {g:iW} {why:Int} (hf:aZ g.func p.funcs.length) (hp:aZ g.pc (bP p g).code.length) (hm:mF why (insOf p g).op=true):oW p (kP g 4 why) :=
 ⟨by show 1<=(4:Int)/\(4:Int)<=5;decide,hf,hp,λk _ => .inl (aa1 k),λ_=>hm,λh=>absurd rfl h,λh=>by exact absurd h (by show ¬ (4:Int)=3;decide),λh=>by exact absurd h (by show ¬ (4:Int)=5;decide)⟩
theorem YO {p:ak} {g:iW} (hf:aZ g.func p.funcs.length) (hp:aZ g.pc (bP p g).code.length) (hm:(insOf p g).op=45):oW p (kP g 3 0) :=
 ⟨by show 1<=(3:Int)/\(3:Int)<=5;decide,hf,hp,λk _ => .inl (aa1 k),λh=>by exact absurd h (by show ¬ (3:Int)=4;decide),λ_=>rfl,λ_=>hm,λh=>by exact absurd h (by show ¬ (3:Int)=5;decide)⟩
theorem YN {p:ak} {g:iW} (m:g.status=1) (h:oW p g) (hl:nR (insOf p g).op=true):oW p { g with status:=5}:=by
 obtain ⟨f,a,b,c,i,d,j,l⟩:=h;exact ⟨by show 1<=(5:Int)/\(5:Int)<=5;decide,a,b,λk hk=>(c k hk).imp id (λe=>⟨e.1,by show ¬ (5:Int)=3;decide,by show ¬ (5:Int)=4;decide⟩),λh=>by exact absurd h (by show ¬ (5:Int)=4;decide),λ_=>d (by omega),λh=>by exact absurd h (by show ¬ (5:Int)=3;decide),λ_=>hl⟩
theorem Uj {op a b:Int} (h:(lG op a b).2=20\/(lG op a b).2=21) (i:1<=op/\op<=36):((lG op a b).2=20->op=19\/op=20)/\((lG op a b).2=21->25<=op/\op<=27):=by
 unfold lG at h ⊢;by_cases f:kR op=0
 ·rw [aa2 f]at h;simp at h
 rw [xw f]at h ⊢;by_cases g:kR op=1
 ·rw [aa2 g]at h;simp at h
 rw [xw g]at h ⊢;by_cases c:op=19\/op=20
 ·rw [aa2 c];refine ⟨λ_=>c,λe=>?_⟩;unfold yA at e;(repeat' split at e);all_goals simp at e
 rw [xw c]at h ⊢;by_cases d:25<=op/\op<=27
 ·rw [aa2 d];refine ⟨λe=>?_,λ_=>d⟩;unfold NJ at e;(repeat' split at e);all_goals simp at e
 rw [xw d]at h;simp at h
theorem aaq {p:ak} (hp:qJ p) {g:iW} (h:oW p g) (k:g.status=1) (s:Bd g) (hl:nR (insOf p g).op=true):oW p (lq g (insOf p g)):=by
 have hF:xk p (bP p g):=hp.fn _ (by
  have:=h.2.1
  unfold aZ at this
  rw [bP,aae,Y0 (show g.func.toNat<p.funcs.length by omega)]
  exact acr _)
 have j:=Df hF (g:=g) ⟨s,h.2.2.1⟩ hl;have hi:=Ie hF h.2.2.1;have l:=FV h;have hw:=h.2.2.2.2.2.1 (by omega);have a:=j.1.2;have t:1<=(insOf p g).op/\((insOf p g).op<=36\/40<=(insOf p g).op)/\(insOf p g).op<=45:=by generalize (insOf p g).op=o at hl;simp [nR]at hl;omega
 have d:=hi.num;have b:=hi.const;have c:=hi.move;simp only [jc]at d b c;have m:KF (bP p g) g=insOf p g:=rfl;rw [m]at a;have q:(bP p g).code.getD g.pc.toNat mZ=insOf p g:=rfl;rw [q]at d b c;have i:∀ (r v:Int) (n:Int),(0<=r/\r<(bP p g).regs)->aZ n (bP p g).code.length->oW p (rV { g with pc:=n} r v):=λr v n u hn=>uy (.inl k) h.2.1 hn hw (Na l u v);have f:∀ (n:Int),aZ n (bP p g).code.length->oW p { g with pc:=n}:=λn hn=>uy (.inl k) h.2.1 hn hw l;revert a;unfold lq;split
 ·rename_i e;intro a;exact i _ _ _ (b (.inl e)) a
 split
 ·rename_i e;intro a;exact i _ _ _ (c e).1 a
 split
 ·intro a;exact f _ a
 split
 ·split;{intro a;exact f _ a};intro a;exact f _ a
 split
 ·rename_i e;split;{intro _;exact Dw h.2.1 h.2.2.1 (by rw [e];rfl)};intro a;exact f _ a
 split
 ·rename_i e;intro _;exact YO h.2.1 h.2.2.1 e
 split
 ·rename_i n40 n41 n42 n43 n44 n45 e;intro _;have:=(Uj (.inl e) (by omega)).1 e;refine Dw h.2.1 h.2.2.1 ?_;generalize (insOf p g).op=o at this;unfold mF;simp;omega
 split
 ·rename_i n40 n41 n42 n43 n44 n45 _ e;intro _;have:=(Uj (.inr e) (by omega)).2 e;refine Dw h.2.1 h.2.2.1 ?_;generalize (insOf p g).op=o at this;unfold mF;simp;omega
 rename_i n40 n41 n42 n43 n44 n45 _ _;intro a;exact i _ _ _ (d (by omega)).1 a
structure VX (p:ak) (s:cZ) (g:Int):Prop where
 ok:oh s
 right:fE p=true
 cnt:1<=s.count/\s.count<=6
 pos:0<=g/\g<s.count
 var:∀ k,k<8->KJ p s k
 own:∀ k,k<4->Ee p s k
 gos:∀ k:Nat,k<6->(k:Int)≠g->Dn p s k
 chs:∀ k,k<4->MV p s k
 frm:∀ k,k<p.chans.length->(bI s k).offer≠0->(bI s k).frm≠g
 wat:∀ k:Nat,k<6->(k:Int)≠g->Gg p s k
theorem VX.fin {p:ak} {s:cZ} {g:Int} (h:VX p s g) (hf:oW p (goI s g)) (b:(goI s g).status≠2):dF p s:=by
 have hp:=h.pos;have hc:=h.cnt;refine ⟨h.right,h.cnt,h.var,h.own,λk hk=>?_,h.chs,λk hk=>?_⟩
 ·by_cases e:(k:Int)=g;{subst e;exact ⟨λ_=>hf,λa=>by omega⟩};exact h.gos k hk e
 by_cases e:(k:Int)=g;{subst e;exact λa=>absurd a b};exact h.wat k hk e
theorem VX.of {p:ak} {s:cZ} {g:Int} (f:oh s) (h:dF p s) (hp:0<=g/\g<s.count) (c:(goI s g).status≠2):VX p s g :=
 ⟨f,h.1,h.2.1,hp,h.2.2.1,h.2.2.2.1,λk hk _=>h.2.2.2.2.1 k hk,h.2.2.2.2.2.1,λk hk b e=>by
  have d:k<4:=by have:=(kJ h.1).chans;omega
  have a:=((h.2.2.2.2.2.1 k d).1 hk).2.2.2.2.2.2 b;rw [e]at a;exact c a.2.2.1,λk hk _=>h.2.2.2.2.2.2 k hk⟩
theorem pU {p:ak} {s s':cZ} {g:Int} (h:∀ k,k<p.chans.length->(((bI s' k).offer≠0/\(bI s' k).frm=g)↔((bI s k).offer≠0/\(bI s k).frm=g))):∀ c,uO p s' g c=uO p s g c
 | 0=>rfl
 | c+1=>by rw [uO,uO,pU h c];congr 1;refine ite_congr (propext ⟨λe=>⟨e.1,(h c e.1).1 e.2⟩,λe=>⟨e.1,(h c e.1).2 e.2⟩⟩) (λ_=>rfl) (λ_=>rfl)
theorem Aw {p:ak} {s s':cZ} {g c:Int} (hc:s.count<=s'.count) (hg:goI s' g=goI s g) (h:qF p s g c):qF p s' g c:=by
 obtain ⟨a,f,b,d,e⟩:=h;unfold qF;rw [hg];exact ⟨a,by omega,b,d,e⟩
theorem pO {p:ak} {s s':cZ} {c:Nat} (f:bI s' c=bI s c) (g:(bI s c).offer≠0->qF p s (bI s c).frm c->qF p s' (bI s c).frm c) (h:uF p s c):uF p s' c:=by
 unfold uF at h ⊢;rw [f];obtain ⟨a1,a,a3,a4,a5,b,d⟩:=h;exact ⟨a1,a,a3,a4,a5,b,λe=>g e (d e)⟩
theorem VF {s:cZ} {g k:Int} {x:iW} (hg:0<=g) (hk:0<=k) (h:k≠g):goI { s with gos:=s.gos.set g.toNat x} k=goI s k:=by
 show (s.gos.set g.toNat x).getD k.toNat go0=s.gos.getD k.toNat go0;rw [kE,xw (by omega)]
theorem tC {s:cZ} {g:Int} {x:iW} (hl:g.toNat<s.gos.length):goI { s with gos:=s.gos.set g.toNat x} g=x:=by
 show (s.gos.set g.toNat x).getD g.toNat go0=x;rw [kE,aa2 ⟨rfl,hl⟩]
theorem VX.fB {p:ak} {s:cZ} {g:Int} (h:VX p s g) {x:iW} (hx:Bd x):VX p { s with gos:=s.gos.set g.toNat x} g:=by
 have hp:=h.pos;have hg:∀ k:Nat,(k:Int)≠g->(s.gos.set g.toNat x).getD k go0=s.gos.getD k go0:=λk hk=>by rw [kE,xw (by omega)]
 refine ⟨h.ok.fB hx,h.right,h.cnt,h.pos,h.var,h.own,λk hk hn=>?_,λk hk=>⟨λhl=>?_,(h.chs k hk).2⟩,h.frm,λk hk hn=>?_⟩
 ·have a:=h.gos k hk hn;unfold Dn at a ⊢;rw [show ({ s with gos:=s.gos.set g.toNat x}:cZ).gos.getD k go0=s.gos.getD k go0 from hg k hn];exact a
 ·refine pO (s:=s) rfl (λb hw=>?_) ((h.chs k hk).1 hl);exact Aw (s:=s) (Int.le_refl _) (VF hp.1 hw.1 (h.frm k hl b)) hw
 have a:=h.wat k hk hn;unfold Gg at a ⊢;rw [show ({ s with gos:=s.gos.set g.toNat x}:cZ).gos.getD k go0=s.gos.getD k go0 from hg k hn];exact λe=>(pU (s:=s) (λ_ _=>Iff.rfl) 4).trans (a e)
theorem VX.setVar {p:ak} {s:cZ} {g:Int} (h:VX p s g) {k v:Int} (hk:aZ k p.vars.length):VX p { s with vars:=s.vars.set k.toNat v} g:=by
 unfold aZ at hk;refine ⟨h.ok.setVar _ _,h.right,h.cnt,h.pos,λj a hl=>?_,h.own,h.gos,λj a=>⟨λhl=>?_,(h.chs j a).2⟩,h.frm,λj a hn e=>?_⟩
 ·show (s.vars.set k.toNat v).getD j 0=0;rw [kE,xw (by omega)];exact h.var j a hl
 ·exact pO (s:=s) rfl (λb hw=>hw) ((h.chs j a).1 hl)
 exact (pU (s:=s) (λ_ _=>Iff.rfl) 4).trans (h.wat j a hn e)
theorem VX.setOwn {p:ak} {s:cZ} {g:Int} (h:VX p s g) {k v:Int} (hk:0<=k/\k<p.locks) (c:0<=v/\v<=s.count):VX p { s with owner:=s.owner.set k.toNat v} g:=by
 refine ⟨h.ok.setOwn _ _,h.right,h.cnt,h.pos,h.var,λj a=>?_,h.gos,λj a=>⟨λhl=>?_,(h.chs j a).2⟩,h.frm,λj a hn e=>?_⟩
 ·have b:=h.own j a;unfold Ee at b ⊢;rw [show ({ s with owner:=s.owner.set k.toNat v}:cZ).owner.getD j 0=if k.toNat=j/\j<s.owner.length then v else s.owner.getD j 0 from kE];split;{exact ⟨c.1,c.2,λ_=>by omega⟩};exact b
 ·exact pO (s:=s) rfl (λd hw=>hw) ((h.chs j a).1 hl)
 exact (pU (s:=s) (λ_ _=>Iff.rfl) 4).trans (h.wat j a hn e)
theorem og {s:cZ} {c:Int} {k:Nat} {y:iU} (h:k≠c.toNat):bI { s with chans:=s.chans.set c.toNat y} k=bI s k:=by
 show (s.chans.set c.toNat y).getD k BG=s.chans.getD k BG;rw [kE,xw (by omega)]
theorem qX {s:cZ} {c:Int} {y:iU} (h:c.toNat<s.chans.length):bI { s with chans:=s.chans.set c.toNat y} c.toNat=y:=by
 show (s.chans.set c.toNat y).getD c.toNat BG=y;rw [kE,aa2 ⟨rfl,h⟩]
def IV (p:ak) (y:iU) (c:Nat):Prop:=((0<=y.len/\y.len<=vT p c)/\(0<=y.offer/\y.offer<=3)/\(y.offer≠0->vT p c=0)) /\
 (∀ k:Nat,k<4->y.len<=k->y.buf.getD k 0=0)/\(y.offer=0->y.frm=0/\y.val=0) /\
 (y.offer=1->y.closed=false)/\(y.offer=2\/y.offer=3->y.val=0)/\(y.offer=3->y.closed=true)
theorem Zg {p:ak} {s:cZ} {c:Nat} (h:uF p s c):IV p (bI s c) c:=⟨h.1,h.2.1,h.2.2.1,h.2.2.2.1,h.2.2.2.2.1,h.2.2.2.2.2.1⟩
theorem FZ {p:ak} {s:cZ} {c:Nat} {y:iU} (e:bI s c=y) (h:IV p y c) (hw:y.offer≠0->qF p s y.frm c):uF p s c:=by
 subst e;exact ⟨h.1,h.2.1,h.2.2.1,h.2.2.2.1,h.2.2.2.2.1,h.2.2.2.2.2,hw⟩
theorem VX.cu {p:ak} {s:cZ} {g:Int} (h:VX p s g) {c:Int} {y:iU} (hc:aZ c p.chans.length) (t:Em y) (r:IV p y c.toNat) (o:y.offer≠0->(bW s c).offer≠0) (n:(bW s c).offer≠0->y.offer≠0) (hf:y.frm=(bW s c).frm):VX p { s with chans:=s.chans.set c.toNat y} g:=by
 have q:=(kJ h.right).chans;unfold aZ at hc;have f:c.toNat<s.chans.length:=by rw [h.ok.chans];omega
 have i:∀ k:Nat,(bI { s with chans:=s.chans.set c.toNat y} k).offer≠0->(bI s k).offer≠0/\(bI { s with chans:=s.chans.set c.toNat y} k).frm=(bI s k).frm:=λk=>by by_cases e:k=c.toNat;{subst e;rw [qX f];exact λd=>⟨o d,hf⟩};rw [og e];exact λd=>⟨d,rfl⟩
 have m:∀ k:Nat,(bI s k).offer≠0->(bI { s with chans:=s.chans.set c.toNat y} k).offer≠0:=λk=>by by_cases e:k=c.toNat;{subst e;rw [qX f];exact n};rw [og e];exact id
 refine ⟨h.ok.cu t,h.right,h.cnt,h.pos,h.var,h.own,h.gos,λk hk=>⟨λhl=>?_,λhl=>?_⟩,λk hk d=>?_,λk hk hn e=>?_⟩
 ·have b:=(h.chs k hk).1 hl;by_cases e:k=c.toNat;{subst e;refine FZ (qX f) r λd=>?_;rw [hf];exact b.2.2.2.2.2.2 (o d)};exact pO (s:=s) (og e) (λ_ hw=>hw) b
 ·rw [og (by omega)];exact (h.chs k hk).2 hl
 ·obtain ⟨b,l⟩:=i k d;rw [l];exact h.frm k hk b
 refine (pU (s:=s) (λj u=>⟨λa=>?_,λa=>?_⟩) 4).trans (h.wat k hk hn e);{obtain ⟨b,l⟩:=i j a.1;exact ⟨b,l▸a.2⟩};have b:=m j a.1;obtain ⟨_,l⟩:=i j b;exact ⟨b,l.trans a.2⟩
theorem VX.taken {p:ak} {s:cZ} {g c:Int} (h:dZ p s g) (hw:(goI s g).status=2) (v:(insOf p (goI s g)).a=c) {y:iU} (hc:aZ c p.chans.length) (u:Em y) (t:IV p y c.toNat) (i:y.offer=0):VX p { s with chans:=s.chans.set c.toNat y} g:=by
 have r:=h.prog.chans;have b:=h.valid;unfold aZ at hc;have d:c.toNat<s.chans.length:=by rw [h.ok.chans];omega
 have m:∀ k,k<p.chans.length->(bI s k).offer≠0->(bI s k).frm=g->k=c.toNat:=λk hk f hf=>by have l:=((b.2.2.2.2.2.1 k (by omega)).1 hk).2.2.2.2.2.2 f;rw [hf]at l;have:=l.2.2.2.2;omega
 have n:(bI s c.toNat).offer≠0->(bI s c.toNat).frm=g:=λf=>by obtain ⟨_,k,w,x,l,q⟩:=h.wait hw;(have:k=c.toNat:=by omega);subst this;exact q
 refine ⟨h.ok.cu u,b.1,b.2.1,⟨h.pos.1,h.lt⟩,b.2.2.1,b.2.2.2.1,λk hk _=>b.2.2.2.2.1 k hk,λk hk=>⟨λhl=>?_,λhl=>?_⟩,λk hk f hf=>?_,λk hk hn e=>?_⟩
 ·by_cases e:k=c.toNat;{subst e;exact FZ (qX d) t λe=>absurd i e};exact pO (s:=s) (og e) (λ_ hw=>hw) ((b.2.2.2.2.2.1 k hk).1 hl)
 ·rw [og (by omega)];exact (b.2.2.2.2.2.1 k hk).2 hl
 ·by_cases e:k=c.toNat;{subst e;rw [qX d]at f;exact f i};rw [og e]at f hf;exact e (m k hk f hf)
 refine (pU (s:=s) (λj z=>?_) 4).trans (b.2.2.2.2.2.2 k hk e);by_cases o:j=c.toNat;{subst o;rw [qX d];exact ⟨λa=>absurd i a.1,λa=>absurd ((n a.1).symm.trans a.2) (Ne.symm hn)⟩};rw [og o]
theorem VX.spawn {p:ak} {s:cZ} {g:Int} (h:VX p s g) (hc:s.count<6) {x:iW} (hx:Bd x) (hf:oW p x) (l:x.status≠2):VX p { s with gos:=s.gos.set s.count.toNat x,count:=s.count+1} g:=by
 have hp:=h.pos;have m:=h.cnt;have hg:∀ k:Nat,(k:Int)≠s.count->(s.gos.set s.count.toNat x).getD k go0=s.gos.getD k go0:=λk hk=>by rw [kE,xw (by omega)]
 have c:∀ k:Nat,(k:Int)=s.count->(s.gos.set s.count.toNat x).getD k go0=x:=λk hk=>by rw [kE,aa2 ⟨by omega,by rw [h.ok.gos];omega⟩]
 have i:oh { s with gos:=s.gos.set s.count.toNat x,count:=s.count+1}:=by have:=h.ok.fB (k:=s.count.toNat) hx;exact ⟨this.vars,this.owner,this.chans,this.gos,this.ch,this.go⟩
 refine ⟨i,h.right,⟨by show 1<=s.count+1;omega,by show s.count+1<=6;omega⟩,⟨hp.1,by show g<s.count+1;omega⟩,h.var,λk hk=>?_,λk hk hn=>?_,λk hk=>⟨λhl=>?_,(h.chs k hk).2⟩,h.frm,λk hk hn e=>?_⟩
 ·have b:=h.own k hk;exact ⟨b.1,Int.le_trans b.2.1 (by show s.count<=s.count+1;omega),b.2.2⟩
 ·by_cases e:(k:Int)=s.count;{refine ⟨λ_=>?_,λa=>absurd a (by show ¬ s.count+1<=(k:Int);omega)⟩;rw [show ({ s with gos:=s.gos.set s.count.toNat x,count:=s.count+1}:cZ).gos.getD k go0=x from c k e];exact hf};have b:=h.gos k hk hn;unfold Dn;rw [show ({ s with gos:=s.gos.set s.count.toNat x,count:=s.count+1}:cZ).gos.getD k go0=s.gos.getD k go0 from hg k e];exact ⟨λf=>b.1 (by have:(k:Int)<s.count+1:=f;omega),λa=>b.2 (by have:s.count+1<=(k:Int):=a;omega)⟩
 ·refine pO (s:=s) rfl (λq hw=>?_) ((h.chs k hk).1 hl);refine Aw (s:=s) (by show s.count<=s.count+1;omega) ?_ hw;have n:=hw.1;have o:=hw.2.1;have:=hg (bI s k).frm.toNat (by omega);exact this
 have d:((s.gos.set s.count.toNat x).getD k go0).status=2:=e;by_cases j:(k:Int)=s.count;{rw [c k j]at d;exact absurd d l};rw [hg k j]at d;exact (pU (s:=s) (λ_ _=>Iff.rfl) 4).trans (h.wat k hk hn d)
theorem VX.offer {p:ak} {s:cZ} {g c:Int} (h:VX p s g) {x:iW} {y:iU} (hx:Bd x) (v:oW p x) (a1:(insOf p x).op=58) (ha:(insOf p x).a=c) (hc:aZ c p.chans.length) (hy:Em y) (hq:IV p y c.toNat) (ho:(bW s c).offer=0) (hf:y.frm=g) (a0:y.offer≠0) (h2:x.status=2):dF p { { s with chans:=s.chans.set c.toNat y}with gos:=s.gos.set g.toNat x}:=by
 have hp:=h.pos;have u:=h.cnt;have a7:=(kJ h.right).chans;unfold aZ at hc;have t:c.toNat<s.chans.length:=by rw [h.ok.chans];omega
 have a8:g.toNat<s.gos.length:=by rw [h.ok.gos];omega
 have hg:∀ k:Nat,(k:Int)≠g->(s.gos.set g.toNat x).getD k go0=s.gos.getD k go0:=λk hk=>by rw [kE,xw (by omega)]
 have w:∀ k:Nat,(k:Int)=g->(s.gos.set g.toNat x).getD k go0=x:=λk hk=>by rw [kE,aa2 ⟨by omega,by omega⟩]
 obtain ⟨s',hs'⟩:∃ s',({ { s with chans:=s.chans.set c.toNat y}with gos:=s.gos.set g.toNat x}:cZ)=s':=⟨_,rfl⟩;have d:∀ k:Nat,k≠c.toNat->bI s' k=bI s k:=λk hk=>by rw [<- hs'];exact og (s:=s) hk
 have f:bI s' c.toNat=y:=by rw [<- hs'];exact qX (s:=s) t
 have l:∀ k:Nat,(k:Int)≠g->s'.gos.getD k go0=s.gos.getD k go0:=λk hk=>by rw [<- hs'];exact hg k hk
 have n:∀ k:Nat,(k:Int)=g->s'.gos.getD k go0=x:=λk hk=>by rw [<- hs'];exact w k hk
 have b:s'.count=s.count:=by rw [<- hs']
 have i:s'.vars=s.vars:=by rw [<- hs']
 have m:s'.owner=s.owner:=by rw [<- hs']
 rw [hs'];have o:∀ k:Nat,uO p s' g k=if c.toNat<k then 1 else 0:=λk=>by induction k with| zero=>rfl| succ k ih=>rw [uO,ih];by_cases e:k=c.toNat;{rw [e,f,xw (by omega),aa2 ⟨by omega,a0,hf⟩,aa2 (by omega)]};rw [d k e];have:¬ (k<p.chans.length/\(bI s k).offer≠0/\(bI s k).frm=g):=λz=>h.frm k z.1 z.2.1 z.2.2;rw [xw this];by_cases r:c.toNat<k;{rw [aa2 r,aa2 (by omega)]};rw [xw r,xw (by omega)]
 refine ⟨h.right,by rw [b];exact u,λk hk=>?_,λk hk=>?_,λk hk=>?_,λk hk=>⟨λhl=>?_,λhl=>?_⟩,λk hk e=>?_⟩
 ·unfold KJ;rw [i];exact h.var k hk
 ·unfold Ee;rw [m,b];exact h.own k hk
 ·unfold Dn;rw [b];by_cases e:(k:Int)=g;{rw [n k e];exact ⟨λ_=>v,λr=>by omega⟩};rw [l k e];exact h.gos k hk e
 ·by_cases e:k=c.toNat;{subst e;refine FZ f hq λ_=>?_;rw [hf];have e1:goI s' g=x:=n g.toNat (by omega);unfold qF;rw [e1,b];exact ⟨hp.1,hp.2,h2,a1,by omega⟩};refine pO (s:=s) (d k e) (λh0 hw=>Aw (s:=s) (by omega) (l _ ?_) hw) ((h.chs k hk).1 hl);have a2:=hw.1;rw [aeI a2];exact h.frm k hl h0
 ·rw [d k (by omega)];exact (h.chs k hk).2 hl
 by_cases q:(k:Int)=g;{rw [q,o 4,aa2 (by omega)]};rw [l k q]at e;refine (pU (s:=s) (λj hj=>?_) 4).trans (h.wat k hk q e);by_cases ej:j=c.toNat;{subst ej;rw [f];exact ⟨λa=>absurd (hf.symm.trans a.2) (Ne.symm q),λa=>absurd ho a.1⟩};rw [d j ej]
structure OW (p:ak) (G:iW) (m:PM):Prop where
 x:VX p m.s m.g
 st:(aC m).status=1
 fn:(aC m).func=G.func
 pc:(aC m).pc=G.pc
 why:(aC m).why=0
 z:KH (bP p G) (aC m).regs
theorem OW.rV {p:ak} {G:iW} {m:PM} (h:OW p G m) {r v:Int} (a:r = -1\/jc (bP p G) r):OW p G (bU m r v):=by
 unfold bU;rcases a with e | a
 ·rw [xw (by omega)];exact h
 unfold jc at a;rw [aa2 a.1];have hp:=h.x.pos;have b:=h.x.cnt;have e:aC (fB m (Go.Ab.rV (aC m) r v))=Go.Ab.rV (aC m) r v:=tC (by rw [h.x.ok.gos];omega);refine ⟨h.x.fB (by show (List.set _ _ _).length=8;rw [adI];exact gZ h.x.ok _),?_,?_,?_,?_,?_⟩;{rw [e];exact h.st};{rw [e];exact h.fn};{rw [e];exact h.pc};{rw [e];exact h.why};rw [e];exact Na h.z a v
theorem OW.setV {p:ak} {G:iW} {m:PM} (h:OW p G m) {k v:Int} (hk:aZ k p.vars.length):OW p G (setVar m k v):=⟨h.x.setVar hk,h.st,h.fn,h.pc,h.why,h.z⟩
theorem OW.setO {p:ak} {G:iW} {m:PM} (h:OW p G m) {k v:Int} (hk:0<=k/\k<p.locks) (a:0<=v/\v<=m.s.count):OW p G (vH m k v):=⟨h.x.setOwn hk a,h.st,h.fn,h.pc,h.why,h.z⟩
theorem OW.val {p:ak} {G:iW} {m:PM} (h:OW p G m) (v:Int):OW p G (dK m v):=⟨h.x,h.st,h.fn,h.pc,h.why,h.z⟩
theorem OW.setC {p:ak} {G:iW} {m:PM} (h:OW p G m) {c:Int} {y:iU} (hc:aZ c p.chans.length) (e:Em y) (d:IV p y c.toNat) (b:y.offer≠0->(bW m.s c).offer≠0) (a:(bW m.s c).offer≠0->y.offer≠0) (hf:y.frm=(bW m.s c).frm):OW p G (cu m c y):=⟨h.x.cu hc e d b a hf,h.st,h.fn,h.pc,h.why,h.z⟩
theorem OW.fit {p:ak} {G:iW} {m:PM} (h:OW p G m) (hf:aZ G.func p.funcs.length) {n:Int} (hn:aZ n (bP p G).code.length):oW p { aC m with pc:=n}:=by
 have e:bP p { aC m with pc:=n}=bP p G:=by show p.funcs.getD (aC m).func.toNat jI=p.funcs.getD G.func.toNat jI;rw [h.fn]
 exact uy (.inl h.st) (by show aZ (aC m).func _;rw [h.fn];exact hf) (by rw [e];exact hn) h.why (by rw [e];exact h.z)
theorem OW.fail {p:ak} {G:iW} {m:PM} (h:OW p G m) (hf:aZ G.func p.funcs.length) (hn:aZ G.pc (bP p G).code.length) {why:Int} (hm:mF why (insOf p G).op=true):dF p (kC m why).s:=by
 have hp:=h.x.pos;have c:=h.x.cnt;have e:aC (kC m why)=kP (aC m) 4 why:=tC (by rw [h.x.ok.gos];omega);have a:bP p (aC m)=bP p G:=by show p.funcs.getD (aC m).func.toNat jI=p.funcs.getD G.func.toNat jI;rw [h.fn]
 have b:insOf p (aC m)=insOf p G:=by show (bP p (aC m)).code.getD (aC m).pc.toNat mZ=_;rw [a,h.pc]
 have hx:VX p (kC m why).s m.g:=h.x.fB (x:=kP (aC m) 4 why) rfl;refine hx.fin ?_ ?_
 ·rw [show goI (kC m why).s m.g=kP (aC m) 4 why from e];exact Dw (by rw [h.fn];exact hf) (by rw [a,h.pc];exact hn) (by rw [b];exact hm)
 rw [show goI (kC m why).s m.g=kP (aC m) 4 why from e];show ¬ (4:Int)=2;decide
theorem Xc {l:List Int} {k:Nat} (h:k<4):(jQ l).getD k 0=l.getD (if k=3 then 3 else k+1) 0:=by
 match k,h with| 0,_ | 1,_ | 2,_ | 3,_=>rfl
theorem OW.chQ {p:ak} {G:iW} {m:PM} (h:OW p G m) {c:Int} (hc:aZ c p.chans.length):IV p (bW m.s c) c.toNat:=by
 have a:=(kJ h.x.right).chans;unfold aZ at hc;exact Zg ((h.x.chs c.toNat (by omega)).1 (by omega))
theorem OW.recv {p:ak} {G:iW} {m:PM} (h:OW p G m) {c:Int} (hc:aZ c p.chans.length):OW p G (dH m c).1:=by
 have n:=h.chQ hc;obtain ⟨⟨o,q,g⟩,d,r,t,u,v⟩:=n;have hb:(bW m.s c).buf.length=4:=kK h.x.ok _;have a:0<=vT p c.toNat/\vT p c.toNat<=4:=by unfold aZ at hc;refine (kJ h.x.right).caps _ ?_;rw [vT,aae,Y0 (show c.toNat<p.chans.length by omega)];exact acr _
 unfold dH;split
 ·rename_i hl;refine (h.val _).setC hc (by show (List.set _ _ _).length=4;rw [adI];rfl) ⟨⟨⟨by show 0<=(bW m.s c).len - 1;omega,by show (bW m.s c).len - 1<=_;omega⟩,q,g⟩,λk hk b=>?_,r,t,u,v⟩ id id rfl;have f:(bW m.s c).len - 1<=k:=b;show ((jQ (bW m.s c).buf).set ((bW m.s c).len - 1).toNat 0).getD k 0=0;rw [kE];split;{rfl};rename_i hn;(have l:(bW m.s c).len<=k:=by rcases adv k ((bW m.s c).len - 1).toNat with i | i;{omega};rcases adv ((bW m.s c).len - 1).toNat k with j | j;{omega};exact absurd ⟨by omega,show k<4 from hk⟩ hn);rw [Xc hk];split;{exact d 3 (by omega) (by omega)};exact d (k+1) (by omega) (by omega)
 split;{rename_i w;refine (h.val _).setC (y:={ bW m.s c with offer:=2,val:=0}) hc hb ⟨⟨o,by show 0<=(2:Int)/\(2:Int)<=3;decide,λ_=>g (by omega)⟩,d,λe=>by exact absurd e (by show ¬ (2:Int)=0;decide),λe=>by exact absurd e (by show ¬ (2:Int)=1;decide),λ_=>rfl,λe=>by exact absurd e (by show ¬ (2:Int)=3;decide)⟩ (λ_=>by show (bW m.s c).offer≠0;omega) (λ_=>by show (2:Int)≠0;decide) rfl};exact h.val _
theorem OW.shut {p:ak} {G:iW} {m:PM} (h:OW p G m) {c:Int} (hc:aZ c p.chans.length) (a:¬ (bW m.s c).closed=true):OW p G (oq m c):=by
 have i:=h.chQ hc;obtain ⟨⟨d,j,f⟩,g,k,n,l,o⟩:=i;have hb:(bW m.s c).buf.length=4:=kK h.x.ok _;rw [oq,xw a];split
 ·rename_i b;exact h.setC (y:={ bW m.s c with closed:=true,offer:=3,val:=0}) hc hb ⟨⟨d,by show 0<=(3:Int)/\(3:Int)<=3;decide,λ_=>f (by omega)⟩,g,λe=>by exact absurd e (by show ¬ (3:Int)=0;decide),λe=>by exact absurd e (by show ¬ (3:Int)=1;decide),λ_=>rfl,λ_=>rfl⟩ (λ_=>by omega) (λ_=>by show (3:Int)≠0;decide) rfl
 rename_i b;exact h.setC (y:={ bW m.s c with closed:=true}) hc hb ⟨⟨d,j,f⟩,g,k,λe=>absurd e b,l,λ_=>rfl⟩ id id rfl
structure VR (p:ak) (G:iW) (m:PM) (D:RD):Prop where
 fail:D.why≠0 -> ∃ m':PM,m'.g=m.g/\D.s=m'.s/\OW p G m'/\mF D.why (insOf p G).op=true
 wait:D.why=0->D.to<0->dF p D.s
 run:D.why=0->0<=D.to -> ∃ m':PM,m'.g=m.g/\D.s=m'.s/\OW p G m'/\aZ D.to (bP p G).code.length
theorem xB {p:ak} {G:iW} {m m':PM} {to:Int} (h:OW p G m') (hg:m'.g=m.g) (ht:aZ to (bP p G).code.length):VR p G m (iD m' to) :=
 ⟨λe=>absurd rfl e,λ_ e=>by unfold aZ at ht;exact absurd ht.1 (by show ¬ 0<=(iD m' to).to;omega),λ_ _=>⟨m',hg,rfl,h,ht⟩⟩
theorem zL {p:ak} {G:iW} {m m':PM} {D:RD} (h:OW p G m') (hg:m'.g=m.g) (a:D.s=m'.s) (hw:D.why≠0) (hm:mF D.why (insOf p G).op=true):VR p G m D :=
 ⟨λ_=>⟨m',hg,a,h,hm⟩,λe=>absurd e hw,λe=>absurd e hw⟩
theorem abI (m:PM) (c:Int):(dH m c).1.g=m.g:=by
 unfold dH;split
 ·rfl
 split <;> rfl
theorem Sv {p:ak} {G:iW} {m:PM} (h:OW p G m) {to c r ok:Int} (hc:aZ c p.chans.length) (a:r = -1\/jc (bP p G) r) (hk:ok = -1\/jc (bP p G) ok) (ht:aZ to (bP p G).code.length):VR p G m (tY m to c r ok) :=
 xB (((h.recv hc).rV a).rV hk) (by rw [zu,zu,abI]) ht
theorem Sr {p:ak} {G:iW} {m:PM} (h:OW p G m) (r:oW p G) {to c v:Int} (hc:aZ c p.chans.length) (j:jV p m.s c=true) (i:(insOf p G).op=58/\(insOf p G).a=c\/(insOf p G).op=61/\p.chans.getD c.toNat 0≠0) (ht:aZ to (bP p G).code.length):VR p G m (oJ p m to c v):=by
 have w:=h.chQ hc;obtain ⟨⟨q1,q2,q3⟩,u,q5,q6,q7,q8⟩:=w;have hb:(bW m.s c).buf.length=4:=kK h.x.ok _;unfold oJ;split
 ·exact zL h rfl rfl (by show (4:Int)≠0;decide) (by
   rcases i with e | e
   ·show mF 4 _=true;rw [e.1];rfl
   ·show mF 4 _=true
    rw [e.1]
    rfl)
 rename_i b;have d:(bW m.s c).closed=false:=by simpa using b
 unfold jV at j;rw [d,aeB,adP,abf,abf,acf,acf,adk,adk]at j;by_cases hp:0<p.chans.getD c.toNat 0
 ·(have hlen:(bW m.s c).len<p.chans.getD c.toNat 0:=by rcases j with e | e;{exact e.2};omega);(have e:(⟨(iT p m c v).s,v,0,if 0<p.chans.getD c.toNat 0 then to else -1⟩:RD)=iD (iT p m c v) to:=by rw [aa2 hp,iT,xw b,aa2 hp]);rw [e];refine xB ?_ (by rw [iT,xw b,aa2 hp]) ht;rw [iT,xw b,aa2 hp];refine (h.val v).setC (y:={ oM (bW m.s c) (bW m.s c).len v with len:=(bW m.s c).len+1}) hc (by show (List.set _ _ _).length=4;rw [adI];exact hb) ⟨⟨⟨by show 0<=(bW m.s c).len+1;omega,by show (bW m.s c).len+1<=p.chans.getD c.toNat 0;omega⟩,q2,q3⟩,λk hk n=>?_,q5,q6,q7,q8⟩ id id rfl;have t:(bW m.s c).len+1<=k:=n;show ((bW m.s c).buf.set (bW m.s c).len.toNat v).getD k 0=0;rw [kE,xw (by omega)];exact u k hk (by omega)
 (have o:p.chans.getD c.toNat 0=0/\(bW m.s c).offer=0:=by rcases j with e | e;{omega};exact e);(have f:(insOf p G).op=58/\(insOf p G).a=c:=by rcases i with e | e;{exact e};exact absurd o.1 e.2);refine ⟨λe=>absurd rfl e,λ_ _=>?_,λ_ e=>absurd e (by show ¬ (0:Int)<=(if 0<p.chans.getD c.toNat 0 then to else -1);rw [xw hp];decide)⟩;show dF p (iT p m c v).s;rw [iT,xw b,xw hp];(have l:bP p { aC m with status:=2}=bP p G:=by show p.funcs.getD (aC m).func.toNat jI=p.funcs.getD G.func.toNat jI;rw [h.fn]);(have q:insOf p { aC m with status:=2}=insOf p G:=by show (bP p { aC m with status:=2}).code.getD (aC m).pc.toNat mZ=_;rw [l,h.pc]);have eo:aC (cu { m with val:=v} c { bW m.s c with offer:=1,frm:=m.g,val:=v})=aC m:=rfl;refine VX.offer (s:=m.s) (g:=m.g) (c:=c) h.x (x:={ aC m with status:=2}) (y:={ bW m.s c with offer:=1,frm:=m.g,val:=v}) (gZ h.x.ok _) ?_ ?_ ?_ hc hb ⟨⟨q1,by show 0<=(1:Int)/\(1:Int)<=3;decide,λ_=>o.1⟩,u,λe=>by exact absurd e (by show ¬ (1:Int)=0;decide),λ_=>d,λe=>by exact absurd e (by show ¬ ((1:Int)=2\/(1:Int)=3);decide),λe=>by exact absurd e (by show ¬ (1:Int)=3;decide)⟩ o.2 rfl (by show (1:Int)≠0;decide) rfl;{exact uy (.inr rfl) (by show aZ (aC m).func _;rw [h.fn];exact r.2.1) (by rw [l];show aZ (aC m).pc _;rw [h.pc];exact r.2.2.1) h.why (by rw [l];exact h.z)};{rw [q];exact f.1};rw [q];exact f.2
theorem abO (g:iW) (c:Int) (n k:Nat):(yR g c n).getD k 0=if k<8/\k<n then bn g (c+k)else 0:=by
 rw [aae];by_cases h:k<8
 ·rw [Y0 (by simp [yR,h])];simp only [yR,ae1,aeN,adF];by_cases a:k<n;{rw [aa2 a,aa2 ⟨h,a⟩]};rw [xw a,xw (λe=>a e.2)]
 rw [adA (by simp [yR];omega),xw (λe=>h e.1)];rfl
theorem WL {p:ak} {G:iW} {m:PM} {x:iG} (h:OW p G m) (hx:insOf p G=x) (hi:DN p (bP p G) x) (d:x.op=62) {to:Int} (ht:aZ to (bP p G).code.length):VR p G m (ru p m to x):=by
 obtain ⟨j,hb,_⟩:=hi.spawn d;have l:=h.x.cnt;have i:=h.x.pos;unfold ru;split
 ·exact zL h rfl rfl (by show (8:Int)≠0;decide) (by show mF 8 _=true;rw [hx,d];rfl)
 ·rename_i hc
  rw [jv,xw hc]
  have hF:xk p (p.funcs.getD x.b.toNat jI):=(kJ h.x.right).fn _ (by
   unfold aZ at hb
   rw [aae,Y0 (show x.b.toNat<p.funcs.length by omega)]
   exact acr _)
  have o:KH (p.funcs.getD x.b.toNat jI) (yR (aC m) x.c (qN p x).toNat):=λk q r=>by rw [abO,xw];have:=hF.pars;have e:qN p x=(p.funcs.getD x.b.toNat jI).params:=rfl;omega
  have f:oW p (qW (aC m) x (qN p x).toNat):=uy (.inl rfl) hb (by show aZ 0 (p.funcs.getD x.b.toNat jI).code.length;have:=hF.code;unfold aZ;omega) rfl o
  have a:(goI (jM p m x).s m.g)=aC m:=by show (m.s.gos.set m.s.count.toNat _).getD m.g.toNat go0=m.s.gos.getD m.g.toNat go0;rw [kE,xw (by omega)]
  have n:OW p G (jM p m x):=by refine ⟨h.x.spawn (by omega) (by show (yR _ _ _).length=8;simp [yR]) f (by show ¬ (1:Int)=2;decide),?_,?_,?_,?_,?_⟩;{rw [show aC (jM p m x)=aC m from a];exact h.st};{rw [show aC (jM p m x)=aC m from a];exact h.fn};{rw [show aC (jM p m x)=aC m from a];exact h.pc};{rw [show aC (jM p m x)=aC m from a];exact h.why};rw [show aC (jM p m x)=aC m from a];exact h.z
  exact xB (n.rV j) (by rw [zu];rfl) ht
theorem abo {p:ak} {G:iW} {m:PM} {x:iG} (h:OW p G m) (hx:insOf p G=x) (hi:DN p (bP p G) x) {to:Int} (ht:aZ to (bP p G).code.length):VR p G m (y8 m to x):=by
 have d:=h.x.cnt;have c:=h.x.pos;have b:0<=m.g+1/\m.g+1<=m.s.count:=by omega
 unfold y8;split
 ·rename_i e;exact zL h rfl rfl (by show (6:Int)≠0;decide) (by show mF 6 _=true;rw [hx,e.1];rfl)
 rename_i hn;have key:OW p G (bG m x).1/\(bG m x).1.g=m.g:=by unfold bG;split;{rename_i e;have:=hi.load e;exact ⟨(h.val _).rV (.inr this.1),zu _ _ _⟩};split;{rename_i e;exact ⟨(h.val _).setV (hi.store (.inl e)).2,rfl⟩};split;{rename_i e;have:=hi.bump e;exact ⟨((h.val _).rV this.1).setV this.2.1,zu _ _ _⟩};split;{rename_i e;have:=hi.cas e;(have hc:OW p G (jJ m x)/\(jJ m x).g=m.g:=by unfold jJ;split;{exact ⟨(h.val _).setV this.2.1,rfl⟩};exact ⟨h.val _,rfl⟩);exact ⟨hc.1.rV (.inr this.1),(zu _ _ _).trans hc.2⟩};split;{exact ⟨h.val _,rfl⟩};split;{rename_i e;exact ⟨h.setO (hi.lock (.inl e)) b,rfl⟩};split;{rename_i e;have hl:¬ mJ m.s x.a≠m.g+1:=λf=>hn ⟨e,f⟩;rw [xw hl];exact ⟨h.setO (hi.lock (.inr e)) (by omega),rfl⟩};split;{rename_i e;have:=hi.try_ e;(have hc:OW p G (jH m x)/\(jH m x).g=m.g:=by unfold jH;split;{exact ⟨(h.val _).setO this.2 b,rfl⟩};exact ⟨h.val _,rfl⟩);exact ⟨hc.1.rV (.inr this.1),(zu _ _ _).trans hc.2⟩};exact ⟨h,rfl⟩
 exact xB key.1 key.2 ht
theorem abp {p:ak} {s:cZ} {g n alt:Int} (h:dZ p s g) (ha:alt∈iR p s g):VR p (goI s g) (jK s g n) (ou p (jK s g n) (aU p s g) (bJ p s g) alt):=by
 have b8:=h.at;have b2:=h.pos;have c1:=h.lt;have c8:=h.valid.2.1;have v:=h.fit;have c0:g.toNat<s.gos.length:=by rw [h.ok.gos];omega
 have u:=DJ ha;have a3:(aU p s g).op≠61->jd p s g=true:=λe=>(Ac ha e).1;obtain ⟨m,hm⟩:∃ m,jK s g n=m:=⟨_,rfl⟩;have d:m.s=s:=by rw [<- hm];rfl
 have c:m.g=g:=by rw [<- hm];rfl
 rw [hm];by_cases hw:(goI s g).status=2
 ·obtain ⟨b0,k,hk,c6,d1,c9⟩:=h.wait hw;(have a8:(aU p s g).op=66:=by rw [aU,aa2 hw]);(have ea:(aU p s g).a=(insOf p (goI s g)).a:=by rw [aU,aa2 hw]);have hc:=b8.send (.inr (.inr a8));rw [ou,aa2 a8,xI];(have f:aZ ((aC m).pc+1) (bP p (goI s g)).code.length:=by(have e:(aC m).pc=(goI s g).pc:=by show (goI m.s m.g).pc=_;rw [d,c]);rw [e];exact LY h.fn v.2.2.1 (by rw [show ((bP p (goI s g)).code.getD (goI s g).pc.toNat mZ).op=58 from b0];rfl));have hq:=Zg ((h.valid.2.2.2.2.2.1 (aU p s g).a.toNat (by have:=h.prog.chans;unfold aZ at hc;omega)).1 (by unfold aZ at hc;omega));obtain ⟨⟨q1,q2,q3⟩,q4,q5,q6,q7,q8⟩:=hq;have hx:=VX.taken h hw ea.symm (y:={ bW s (aU p s g).a with offer:=0,frm:=0,val:=0}) hc (kK h.ok _) ⟨⟨q1,by show 0<=(0:Int)/\(0:Int)<=3;decide,λe=>absurd rfl e⟩,q4,λ_=>⟨rfl,rfl⟩,λe=>by exact absurd e (by show ¬ (0:Int)=1;decide),λ_=>rfl,λe=>by exact absurd e (by show ¬ (0:Int)=3;decide)⟩ rfl;(have i:OW p (goI s g) (lH m (aU p s g).a):=by(have e0:(lH m (aU p s g).a).s={ { s with chans:=s.chans.set (aU p s g).a.toNat { bW s (aU p s g).a with offer:=0,frm:=0,val:=0} }with gos:=s.gos.set g.toNat { goI s g with status:=1} }:=by rw [<- hm];rfl);(have e1:aC (lH m (aU p s g).a)={ goI s g with status:=1}:=by show goI (lH m (aU p s g).a).s (lH m (aU p s g).a).g=_;rw [e0,show (lH m (aU p s g).a).g=g from c];exact tC (s:={ s with chans:=s.chans.set (aU p s g).a.toNat { bW s (aU p s g).a with offer:=0,frm:=0,val:=0} }) c0);refine ⟨?_,?_,?_,?_,?_,?_⟩;{rw [e0,show (lH m (aU p s g).a).g=g from c];exact hx.fB (x:={ goI s g with status:=1}) (gZ h.ok _)};{rw [e1]};{rw [e1]};{rw [e1]};{rw [e1];exact v.2.2.2.2.2.1 (by omega)};rw [e1];exact FV v);by_cases h3:(bW m.s (aU p s g).a).offer=3;{rw [aa2 h3];exact zL i (by rfl) rfl (by show (4:Int)≠0;decide) (by show mF 4 _=true;rw [b0];rfl)};rw [xw h3];exact xB i rfl f
 have c2:(goI s g).status=1:=by have:=h.live;unfold mG at this;simp only [adP,adk]at this;omega
 have r:aU p s g=insOf p (goI s g):=by rw [aU,xw hw]
 have hi:=h.ins;have i:OW p (goI s g) m:=by refine ⟨?_,?_,?_,?_,?_,?_⟩;{rw [d,c];exact VX.of h.ok h.valid ⟨b2.1,c1⟩ (by omega)};{show (goI m.s m.g).status=1;rw [d,c];exact c2};{show (goI m.s m.g).func=_;rw [d,c]};{show (goI m.s m.g).pc=_;rw [d,c]};{show (goI m.s m.g).why=0;rw [d,c];exact v.2.2.2.2.2.1 (by omega)};show KH _ (goI m.s m.g).regs;rw [d,c];exact FV v
 have a9:aC m=goI s g:=by show goI m.s m.g=_;rw [d,c]
 rw [r]at u a3 ⊢;obtain ⟨x,hx⟩:∃ x,insOf p (goI s g)=x:=⟨_,rfl⟩;obtain ⟨q,hq⟩:∃ q,bJ p s g=q:=⟨_,rfl⟩;have d0:50<=x.op:=by rw [<- hx];rcases hi.op with h1 | h1;{by_cases b:(insOf p (goI s g)).op=61;{omega};have l:=a3 b;unfold nR at h1;unfold jd at l;rw [r]at l;simp only [adP,abf,acf]at h1;rw [xw (by omega),xw (by omega),xw (by omega),xw (by omega),xw (by omega),xw (by omega)]at l;unfold yQ at l;simp only [abf,acf]at l;omega};unfold yQ at h1;simp only [abf,acf]at h1;omega
 rw [hx]at u hi ⊢;rw [hq]at u ⊢;have f:x.op≠61->aZ ((aC m).pc+1) (bP p (goI s g)).code.length:=λb=>by rw [a9];refine LY h.fn v.2.2.1 ?_;rw [show (bP p (goI s g)).code.getD (goI s g).pc.toNat mZ=x from hx];simp only [uQ,ad3,aco];exact ⟨⟨by omega,by omega⟩,b⟩
 have b4:x.op≠66:=λe=>by have:=hi.op;rw [e]at this;revert this;decide
 have b3:x.op=58->jV p m.s x.a=true:=λe=>by have l:=a3 (by rw [hx];omega);unfold jd at l;rw [r,hx]at l;rw [xw (by omega),xw (by omega),aa2 e]at l;rw [d];exact l
 unfold ou;rw [xw b4];by_cases o:x.op=58
 ·rw [aa2 o];exact Sr i v (hi.send o).1 (b3 o) (.inl ⟨by rw [hx];exact o,by rw [hx]⟩) (f (by omega))
 rw [xw o];by_cases w:x.op=59
 ·rw [aa2 w];obtain ⟨h1,l,h3⟩:=hi.recv w;exact Sv i l h1 h3 (f (by omega))
 rw [xw w];by_cases t:x.op=60
 ·rw [aa2 t];unfold vI;by_cases hc:(bW m.s x.a).closed=true;{rw [aa2 hc];exact zL i rfl rfl (by show (5:Int)≠0;decide) (by show mF 5 _=true;rw [hx,t];rfl)};rw [xw hc];refine xB (i.shut (hi.close t) hc) ?_ (f (by omega));rw [oq,xw hc];split <;> rfl
 rw [xw t];by_cases z:x.op=62
 ·rw [aa2 z];exact WL i hx hi z (f (by omega))
 rw [xw z];by_cases a0:x.op=63
 ·rw [aa2 a0];unfold zi;split;{exact xB (i.val (bn (aC m) x.a)) rfl (f (by omega))};exact zL i rfl rfl (by show (7:Int)≠0;decide) (by show mF 7 _=true;rw [hx,a0];rfl)
 rw [xw a0];by_cases a7:x.op=65
 ·rw [aa2 a7];exact xB (i.val (bn (aC m) x.a)) rfl (f (by omega))
 rw [xw a7];by_cases b:x.op=61
 ·rw [aa2 b];obtain ⟨_,a4⟩:=h.sel (by rw [r,hx];exact b);rw [hq]at a4;obtain ⟨c7,b9⟩:=u b;unfold BZ;by_cases a2:alt=q.cases.length;{rw [aa2 a2];(have b1:q.els ≠ -1:=by rw [<- hq];exact P9 ha (by rw [r,hx];exact b) (by rw [hq];exact a2));exact xB i rfl (a4.els b1)};rw [xw a2];have j:=a4.case (aA q alt.toNat) (by unfold aA;rw [aae,Y0 (show alt.toNat<q.cases.length by omega)];exact acr _);have hb:=b9 (by omega);by_cases hs:(aA q alt.toNat).send=true;{rw [aa2 hs];unfold wZ at hb;rw [hs]at hb;exact Sr i v j.chan (by rw [d];simpa using hb) (.inr ⟨by rw [hx];exact b,j.cap hs⟩) j.to};rw [xw hs];refine Sv i j.chan ?_ (.inl rfl) j.to;by_cases hr:(aA q alt.toNat).reg = -1;{exact .inl hr};exact .inr (j.reg (.inr hr))
 rw [xw b];exact abo i hx hi (f b)
theorem NK {p:ak} (hp:qJ p) {F:gq}:∀ (n:Nat) (x:iW),bP p x=F->oW p x->x.status≠2->Bd x->oW p (lV F n x)/\(lV F n x).status≠2/\Bd (lV F n x):=by
 intro n;have d:∀ x:iW,bP p x=F->BX F x=true->x.status=1/\nR (insOf p x).op=true:=λx e a=>by unfold BX at a;rw [abf,adk]at a;refine ⟨a.1,?_⟩;unfold insOf;rw [e];exact a.2
 induction n with
 | zero=>intro x e hf f b;rw [lV];split;{rename_i a;obtain ⟨h,hl⟩:=d x e a;exact ⟨YN h hf hl,by show ¬ (5:Int)=2;decide,b⟩};exact ⟨hf,f,b⟩
 | succ n ih =>
  intro x e hf f b
  rw [lV]
  split
  ·rename_i a
   obtain ⟨h,hl⟩:=d x e a
   have j:KF F x=insOf p x:=by unfold insOf;rw [e]
   rw [j]
   have i:xk p (bP p x):=hp.fn _ (by
    have:=hf.2.1
    unfold aZ at this
    rw [bP,aae,Y0 (show x.func.toNat<p.funcs.length by omega)]
    exact acr _)
   have c:=Df i (g:=x) ⟨b,hf.2.2.1⟩ hl
   refine ih _ ?_ (aaq hp hf h b hl) ?_ c.1.1
   ·rw [<- e];show p.funcs.getD (lq x (insOf p x)).func.toNat jI=p.funcs.getD x.func.toNat jI;rw [show (lq x (insOf p x)).func=x.func from c.2]
   unfold lq
   (repeat' split)
   all_goals first | exact f | (show ¬ (4:Int)=2;decide) | (show ¬ (3:Int)=2;decide)
  exact ⟨hf,f,b⟩
theorem BP {p:ak} {s:cZ} {g n:Int} (b:oh s) (a:dF p s) (hg:0<=g/\g<s.count) (hn:0<=n/\n<=4096):dF p (bZ p s g n).1:=by
 have d:=a.2.1;have hp:=kJ a.1;have hf:oW p (goI s g):=(a.2.2.2.2.1 g.toNat (by omega)).1 (by omega);rw [bZ,xw (by rw [a.1];decide),xw (λe=>e a),xw (λe=>e ⟨⟨hg.1,by omega⟩,hn⟩),xw (by omega)];split
 ·rename_i f;have c:oW p { goI s g with status:=1}:=uy (g:={ goI s g with status:=1}) (.inl rfl) hf.2.1 hf.2.2.1 (hf.2.2.2.2.2.1 (by omega)) (show KH (bP p (goI s g)) (goI s g).regs from FV hf);obtain ⟨k1,k2,k3⟩:=NK hp n.toNat { goI s g with status:=1} (show bP p { goI s g with status:=1}=bP p (goI s g)from rfl) c (by show ¬ (1:Int)=2;decide) (gZ b _);have hx:=(VX.of b a hg (by omega)).fB k3;refine hx.fin ?_ ?_;{rw [tC (by rw [b.gos];omega)];exact k1};rw [tC (by rw [b.gos];omega)];exact k2
 exact a
theorem Y5 {p:ak} {s:cZ} {x:bF} {n:Int} (h:dZ p s x.go) (hx:x.alt∈iR p s x.go) (hn:0<=n/\n<=4096):dF p (pY p s x n).1:=by
 have a4:pY p s x n=((rM p (nV p s x n).1 (nV p s x n).2.1 (nV p s x n).2.2).s,kY p s x (nV p s x n).1.val,0):=by rw [pY,xw (by rw [mM,xw (by rw [h.valid.1];decide),xw (λw=>w h.valid)];decide),xw (λw=>w hn),xw (λw=>w ⟨h.pos,h.live,hx⟩)]
 rw [a4];show dF p (rM p (nV p s x n).1 (nV p s x n).2.1 (nV p s x n).2.2).s;have f:MD (jK s x.go n) (Gh p s x n) (nV p s x n):=DU h hx;have i:VR p (goI s x.go) (jK s x.go n) (Gh p s x n):=abp h hx;have hG:=h.fit;obtain ⟨D,hD⟩:∃ D,Gh p s x n=D:=⟨_,rfl⟩;obtain ⟨r,hr⟩:∃ r,nV p s x n=r:=⟨_,rfl⟩;rw [hD,hr]at f;rw [hD]at i;rw [hr];by_cases hw:D.why=0
 ·rcases Int.lt_or_le D.to 0 with ht | ht;{obtain ⟨q,t,_⟩:=f.wait hw ht;rw [rM,aa2 q,t];exact i.wait hw ht};obtain ⟨q,t,h3⟩:=f.run hw ht;obtain ⟨m',m,a,j,hb⟩:=i.run hw ht;have b:m'.g=x.go:=m;rw [q,rM,xw (show ¬ (false=true) by decide),t];obtain ⟨d,hs1⟩:∃ d,({ D.s with gos:=D.s.gos.set x.go.toNat { goI D.s x.go with pc:=D.to} }:cZ)=d:=⟨_,rfl⟩;have a3:=j.x.cnt;have a0:=j.x.pos;have c:=j.x.ok;rw [<- a,b]at a0;rw [<- a]at c a3;(have y:aC m'=goI D.s x.go:=by show goI m'.s m'.g=_;rw [<- a,b]);have k:=j.fit hG.2.1 hb;rw [y]at k;have a5:=j.st;rw [y]at a5;(have l:oh d:=by rw [<- hs1];exact c.fB (x:={ goI D.s x.go with pc:=D.to}) (gZ c _));(have a6:dF p d:=by have hX:=j.x;rw [<- a,b]at hX;have u:=hX.fB (x:={ goI D.s x.go with pc:=D.to}) (gZ c _);rw [hs1]at u;(have e1:goI d x.go={ goI D.s x.go with pc:=D.to}:=by rw [<- hs1];exact tC (by rw [c.gos];omega));refine u.fin ?_ ?_;{rw [e1];exact k};rw [e1];show ¬ (goI D.s x.go).status=2;omega);(have e0:fB (⟨D.s,(jK s x.go n).g,(jK s x.go n).fuel,D.val,false⟩:PM) { aC (⟨D.s,(jK s x.go n).g,(jK s x.go n).fuel,D.val,false⟩:PM)with pc:=D.to}=⟨d,x.go,n,D.val,false⟩:=by rw [<- hs1];rfl);rw [e0];(have v:d.count=D.s.count:=by rw [<- hs1]);have o:dF p (bZ p d x.go n).1:=BP l a6 (by rw [v];exact a0) hn;have z:oh (bZ p d x.go n).1:=sU l x.go n;rcases h3 with ⟨k1,k2⟩ | ⟨k1,k2⟩;{rw [k1,xw (by decide)];exact o};have a1:(jK s x.go n).s.count=s.count:=rfl;have b6:=h.valid.2.1;rw [k1,a1,aa2 (by omega)];show dF p (bZ p (bZ p d x.go n).1 s.count n).1;refine BP z o ?_ hn;rcases BQ p d x.go n with e | e;{rw [e,v,k2,a1];omega};exfalso;have:=o.2.1;rw [e]at this;exact absurd this.1 (by decide)
 obtain ⟨q,_,t⟩:=f.fail hw;obtain ⟨m',m,a,j,hm⟩:=i.fail hw;rw [rM,aa2 q,t];(have e:(kC m' D.why).s={ D.s with gos:=D.s.gos.set x.go.toNat (kP (goI D.s x.go) 4 D.why) }:=by have b:m'.g=x.go:=m;show ({ m'.s with gos:=m'.s.gos.set m'.g.toNat (kP (goI m'.s m'.g) 4 D.why) }:cZ)=_;rw [<- a,b]);have hv:=j.fail hG.2.1 hG.2.2.1 hm;rw [e]at hv;exact hv
theorem aaA (p:ak) (n k:Nat):(lM p n).getD k 0=if k<8/\k<n then (p.vars.getD k Jd).init else 0:=by
 rw [aae];by_cases h:k<8
 ·rw [Y0 (by simp [lM,h])];simp only [lM,ae1,aeN,adF];by_cases a:k<n;{rw [aa2 a,aa2 ⟨h,a⟩]};rw [xw a,xw (λe=>a e.2)]
 rw [adA (by simp [lM];omega),xw (λe=>h e.1)];rfl
theorem Nu {p:ak} {n:Int} (i:fE p=true) (hn:0<=n/\n<=4096):dF p (dJ p n).1:=by
 have hp:=kJ i;have f:oh (dJ p n).1:=BL;rw [dJ,xw (by rw [i];decide),xw (λe=>e hn)]at f ⊢;show dF p (PX p n.toNat);have hok':oh (PX p n.toNat):=f;have m:=hp.funcs;have hF:xk p (aV p 0):=hp.fn _ (by
  rw [aV,aae,Y0 (show 0<p.funcs.length by omega)]
  exact acr _)
 have hl:oW p live0:=uy (g:=live0) (.inl rfl) (by show aZ 0 _;unfold aZ;omega) (by show aZ 0 (aV p 0).code.length;have:=hF.code;unfold aZ;omega) rfl (Sj _);obtain ⟨q,r,s⟩:=NK hp (F:=aV p 0) n.toNat live0 rfl hl (by show ¬ (1:Int)=2;decide) rfl;have a:∀ k:Nat,bI (PX p n.toNat) k=BG:=λk=>by match k with| 0 | 1 | 2 | 3=>rfl| k+4=>rfl
 have d:∀ k:Nat,(k:Int)≠0->(PX p n.toNat).gos.getD k go0=go0:=λk hk=>by match k,hk with| 0,hk=>exact absurd rfl hk| 1,_ | 2,_ | 3,_ | 4,_ | 5,_=>rfl| k+6,_=>rfl
 have hx:VX p (PX p n.toNat) 0:=by refine ⟨hok',i,by show 1<=(1:Int)/\(1:Int)<=6;decide,by show 0<=(0:Int)/\(0:Int)<1;decide,λk hk hl=>?_,λk hk=>?_,λk hk b=>?_,λk hk=>⟨λhl=>?_,λ_=>a k⟩,λk hk l=>?_,λk hk b e=>?_⟩;{show (lM p p.vars.length).getD k 0=0;rw [aaA,xw (by omega)]};{(have e:(PX p n.toNat).owner.getD k 0=0:=by match k,hk with| 0,_ | 1,_ | 2,_ | 3,_=>rfl);unfold Ee;rw [e];exact ⟨by omega,by show (0:Int)<=1;decide,λh=>absurd rfl h⟩};{unfold Dn;rw [d k b];exact ⟨λh=>by have:(k:Int)<1:=h;omega,λ_=>rfl⟩};{have c:0<=vT p k:=(hp.caps _ (by rw [vT,aae,Y0 hl];exact acr _)).1;refine FZ (a k) ⟨⟨⟨by decide,c⟩,by decide,λe=>absurd rfl e⟩,λj o _=>?_,λ_=>⟨rfl,rfl⟩,λe=>by exact absurd e (by decide),λ_=>rfl,λe=>by exact absurd e (by decide)⟩ λe=>absurd rfl e;match j,o with| 0,_ | 1,_ | 2,_ | 3,_=>rfl};{rw [a k]at l;exact absurd rfl l};rw [d k b]at e;exact absurd e (by decide)
 exact hx.fin q r
structure GS (p:ak) (s:cZ):Prop where
 ok:oh s
 valid:dF p s
 ws:WS s
theorem GS.start {p:ak} {n:Int} (hw:uM p) (a:fE p=true) (hn:0<=n/\n<=4096):GS p (dJ p n).1:=⟨BL,Nu a hn,WC hw n⟩
theorem abn {m:PM} (h:WS m.s) (why:Int):WS { m.s with gos:=m.s.gos.set m.g.toNat (kP (aC m) 4 why) }:=h.fB (x:=kP (aC m) 4 why) (λv a=>by
 have:v=0:=by simpa [kP,z8]using a
 rw [this];decide)
theorem acu {p:ak} {s:cZ} {x:bF} {n:Int} (hw:uM p) (h:dZ p s x.go) (hx:x.alt∈iR p s x.go) (hn:0<=n/\n<=4096) (i:WS s):WS (pY p s x n).1:=by
 have q:=h.valid.2.1;have g:pY p s x n=((rM p (nV p s x n).1 (nV p s x n).2.1 (nV p s x n).2.2).s,kY p s x (nV p s x n).1.val,0):=by rw [pY,xw (by rw [mM,xw (by rw [h.valid.1];decide),xw (λe=>e h.valid)];decide),xw (λe=>e hn),xw (λe=>e ⟨h.pos,h.live,hx⟩)]
 rw [g];show WS (rM p (nV p s x n).1 (nV p s x n).2.1 (nV p s x n).2.2).s;have b:MD (jK s x.go n) (Gh p s x n) (nV p s x n):=DU h hx;have a:WS (Gh p s x n).s:=WB (m:=jK s x.go n) i (by show 0<=s.count/\s.count<=6;omega) _ _ _;obtain ⟨D,k⟩:∃ D,Gh p s x n=D:=⟨_,rfl⟩;obtain ⟨r,l⟩:∃ r,nV p s x n=r:=⟨_,rfl⟩;rw [k,l]at b;rw [k]at a;rw [l];by_cases c:D.why=0
 ·rcases Int.lt_or_le D.to 0 with ht | ht;{obtain ⟨d,f,_⟩:=b.wait c ht;rw [rM,aa2 d,f];exact a};obtain ⟨d,f,t⟩:=b.run c ht;have o:WS { D.s with gos:=D.s.gos.set x.go.toNat { goI D.s x.go with pc:=r.2.1} }:=a.fB (x:={ goI D.s x.go with pc:=r.2.1}) (a.at _);have j:WS (bZ p { D.s with gos:=D.s.gos.set x.go.toNat { goI D.s x.go with pc:=r.2.1} } x.go n).1:=DR hw o _ _;rw [d,rM,xw (show ¬ (false=true) by decide)];split;{exact DR hw j _ _};exact j
 obtain ⟨d,_,f⟩:=b.fail c;rw [rM,aa2 d,f];exact abn (m:=⟨D.s,x.go,n,0,false⟩) a D.why
theorem GS.do {p:ak} {s:cZ} {x:bF} {n:Int} (hw:uM p) (h:GS p s) (hx:x∈aF p s) (hn:0<=n/\n<=4096):GS p (pY p s x n).1:=by
 obtain ⟨c,b,_⟩:=Oi hx;have a:=DV h.ok h.valid c;exact ⟨Y7 h.ok,Y5 a b hn,acu hw a b hn h.ws⟩
theorem Jp {p:ak} {s:cZ} {g:Int} (a:dF p s) (c:0<=g/\g<6):vV p s g=if mG (goI s g)=false then 9 else 0:=by
 rw [vV,xw (by rw [mM,xw (by rw [a.1];decide),xw (λb=>b a)];decide),xw (by omega)]
theorem EJ (p:ak) (s:cZ) (g:Int) (j:oh s) (c:dF p s) (d:0<=g/\g<6):AC Tryz.prog T aH 125 [aj p,encS s,.int g] [] (pF false (dX p s g)) []:=by
 refine aX Tryz.func125 ?_;have k:=c.2.1;refine sg rfl (sq (sq ?_));refine WP.ent (st':=aN [(3,.rp 26 (aj p)),(4,.rp 62 (encS s)),(2,.int g)] []) (em [(.s 3 0,1),(.s 4 0,1)] ⟨sF,sF,tt⟩ ⟨rq,rq,cq,tt⟩ trivial) ?_;refine rgs [] rfl ?_ ?_
 ·simp only [ay,under];(repeat' with_reducible refine And.intro ?_ ?_);(all_goals (try with_reducible intros));all_goals (first | exact trivial | omega | (simp;done) | (simp_all;done) | trace_state)
 refine cd rfl (λb=>?_) (λb=>?_)
 ·(have hl:mG (goI s g)=false\/g>=s.count:=by simp only [fG,band]at b;show (((goI s g).status==1||(goI s g).status==2)=false)\/_;have a:(decide (g<0)||decide (g>=s.count)||((goI s g).status != 1&&(goI s g).status != 2))=true:=b;by_cases hc:g>=s.count;{exact .inr hc};left;rw [acB (show ¬ g<0 by omega),acB hc,aeB,aeB,abf,bne_iff_ne,bne_iff_ne]at a;revert a;generalize (goI s g).status=u;intro a;simp [a.1,a.2]);(have ht:dX p s g=[]:=by rw [dX,xw];rw [Jp c d];rcases hl with h | h;{rw [aa2 h];decide};by_cases hb:mG (goI s g)=false;{rw [aa2 hb];decide};have:=(dZ.mk j c (by simpa using hb) d:dZ p s g).lt;omega);rw [ht];exact sg rfl (WP.ret (aJ hT [] (ts:=[(6,pF false [])]) (l:=[pF false []]) trivial ⟨⟨rfl,_,rfl,eP (by decide)⟩,tt⟩ trivial rfl rfl rfl))
 (have hl:mG (goI s g)=true:=by simp only [fG,band]at b;have a:(decide (g<0)||decide (g>=s.count)||((goI s g).status != 1&&(goI s g).status != 2))=false:=b;show ((goI s g).status==1||(goI s g).status==2)=true;simp only [ad3]at a;have f:=a.2;clear b a;revert f;generalize (goI s g).status=u;intro f;by_cases e:u=1;{simp [e]};simpa [e]using f);have i:dZ p s g:=⟨j,c,hl,d⟩;(have ht:dX p s g=(dM p s g).map (·.t):=by rw [dX,aa2 (by rw [Jp c d,xw (by rw [hl];decide)])]);refine sk (sq (rgs [CG.pure (rowP 134 fJ jS (dM p s g))] rfl ?_ ?_));{have m:=JE p s g i;exact au};refine rX ?_;rw [ht];exact aJ hT [] (ts:=[(6,pF false ((dM p s g).map (·.t)))]) (l:=[pF false ((dM p s g).map (·.t))]) trivial ⟨⟨rfl,_,rfl,KC _⟩,tt⟩ trivial rfl rfl rfl
def encZ (f:Nat->Bool):AV := .agg 167 6 (λi => .bool (f i))
theorem Pz (f:Nat->Bool) (k:Nat) (b:Bool):(encZ f).put [k] (.bool b)=encZ (λq=>if q=k then b else f q):=by
 refine bH λj=>?_;by_cases h:j=k
 ·subst h;simp [AV.put]
 simp [AV.put,h,jW h]
def qL (p:ak) (s:cZ) (f:Nat->Bool) (g:Int) (q:Nat):Bool:=f q && !((q:Int)==g||lS (dX p s q) (dX p s g))
def qH (p:ak) (s:cZ) (f:Nat->Bool) (g:Int) (k:Nat):Nat->Bool:=λq=>if q<k then qL p s f g q else f q
theorem aaB {p:ak} {s:cZ} {f:Nat->Bool} {g:Int} {k:Nat} (hc:f k=true/\((k:Int)=g\/lS (dX p s k) (dX p s g)=true)):(λq=>if q=k then false else qH p s f g k q)=qH p s f g (k+1):=by
 funext q;by_cases h:q=k
 ·subst h;rw [aa2 rfl,qH,aa2 (by omega),qL];rcases hc.2 with h | h <;> simp [h]
 rw [xw h,qH,qH];by_cases a:q<k;{rw [aa2 a,aa2 (by omega)]};rw [xw a,xw (by omega)]
theorem Yq {p:ak} {s:cZ} {f:Nat->Bool} {g:Int} {k:Nat} (hc:¬ (f k=true/\((k:Int)=g\/lS (dX p s k) (dX p s g)=true))):qH p s f g k=qH p s f g (k+1):=by
 funext q;rw [qH,qH];by_cases a:q<k
 ·rw [aa2 a,aa2 (by omega)]
 by_cases h:q=k;{subst h;rw [xw a,aa2 (by omega),qL];cases hf:f q;{rfl};have b:¬ ((q:Int)=g\/lS (dX p s q) (dX p s g)=true):=λe=>hc ⟨hf,e⟩;simp only [not_or]at b;simp [b.1,b.2]};rw [xw a,xw (by omega)]
theorem Z4 (p:ak) (s:cZ) (f:Nat->Bool) (g:Int) (j:oh s) (l:dF p s) (m:0<=g/\g<6):AC Tryz.prog T aH 81 [aj p,encS s,encZ f,.int g] [] (encZ (qH p s f g 6)) []:=by
 refine aX Tryz.func81 ?_;refine sg rfl (sq ?_);refine WP.ent (st':=aN [(4,.rp 26 (aj p)),(5,.rp 62 (encS s)),(3,.int g),(6,.ptr (.s 6 0) 1 0 []),(8,.ptr (.s 8 0) 1 0 [])] [(.s 6 0,.cells ⟨167,1,λ_=>encZ f,0⟩),(.s 8 0,.cells ⟨167,1,λ_=>(T 167).zero,0⟩)]) (em [(.s 4 0,1),(.s 5 0,1)] ⟨sF,sF,tt⟩ ⟨rq,rq,cq,cq,cq,tt⟩ ⟨obs rfl,obs rfl,tt⟩) ?_;refine rgs [CG.pure (pF false (dX p s g))] rfl ?_ ?_
 ·have n:=EJ p s g j l m;exact au
 refine sq (sq (rg [] rfl ?_));refine bk (WP.loop (α:=Nat) (λk=>aN [(3,.int g),(4,.rp 26 (aj p)),(5,.rp 62 (encS s)),(6,.ptr (.s 6 0) 1 0 []),(8,.ptr (.s 8 0) 1 0 []),(9,pF false (dX p s g)),(15,.int k)] [(.s 6 0,.cells ⟨167,1,λ_=>encZ (qH p s f g k),0⟩),(.s 8 0,.cells ⟨167,1,λ_=>(T 167).zero,0⟩)]) (λk=>k<=6) (λk=>6 - k) ?_ ?_)
 ·refine ⟨0,?_,?_⟩;{omega};refine eX cX ⟨obs rfl (hg:=q0 (ah (bH λq=>by simp [qH]))),obs rfl,tt⟩
 rintro k hk;refine sg rfl (sq ?_);refine cd rfl (λe=>?_) (λe=>?_);{(have c:k<6:=by simp [-List.getD_eq_getElem?_getD]at e;omega);(have b:qH p s f g k k=f k:=by simp [qH]);refine sk (sq (bk (sq (rg [] rfl ?_))));refine sq (rgs [CG.pure (pF false (dX p s k)),CG.pure (.bool (lS (dX p s k) (dX p s g)))] rfl ?_ ?_);{have h:=EJ p s k j l (by omega);have i:=Vf false false (dX p s k) (dX p s g);simp only [ay,under,CG.pure];(repeat' with_reducible refine And.intro ?_ ?_);(all_goals (try with_reducible intros));all_goals (first | exact trivial | exact h | exact i | assumption | omega | (simp;done) | (simp_all;done) | trace_state)};refine cd rfl (λd=>?_) (λd=>?_);{(have hc:f k=true/\((k:Int)=g\/lS (dX p s k) (dX p s g)=true):=by simp only [fG,band]at d;have a:(qH p s f g k k&&((k:Int)==g||lS (dX p s k) (dX p s g)))=true:=d;rw [b]at a;simpa using a);refine rgs [] rfl ?_ ?_;{simp [ay,under];omega};refine rg [] rfl ⟨k+1,?_,?_,?_⟩;{exact c};{refine eX cX ⟨obs rfl (hg:=q0 (ah ((Pz _ k false).trans (ac8 encZ (aaB hc))))),obs rfl,tt⟩};(try simp only []);first | omega | grind};(have hc:¬ (f k=true/\((k:Int)=g\/lS (dX p s k) (dX p s g)=true)):=by simp only [fG,band]at d;have a:(qH p s f g k k&&((k:Int)==g||lS (dX p s k) (dX p s g)))=false:=d;rw [b]at a;simpa using a);refine sk (rg [] rfl ?_);refine ⟨k+1,?_,?_,?_⟩;{exact c};{refine eX cX ⟨obs rfl (hg:=q0 (ah (ac8 encZ (Yq hc)))),obs rfl,tt⟩};(try simp only []);first | omega | grind};(have c:k=6:=by simp [-List.getD_eq_getElem?_getD]at e;omega);subst c;refine xt (sq (rg [] rfl ?_));exact WP.ret (aW hT rfl rfl rfl rfl rfl (ah rfl) rfl rfl rfl)
theorem Ia (p:ak) (s:cZ) (z:Nat) (g:Int) (q:Nat):∀ k,(oK p s z g k).testBit q=(decide (q<k)&&qL p s z.testBit g q)
 | 0=>by simp [oK]
 | k+1=>by have c:=Ia p s z g q k;rw [oK];by_cases a:z.testBit k=false\/(k:Int)=g;{rw [aa2 a,c];by_cases h:q=k;{subst h;(have:qL p s z.testBit g q=false:=by rw [qL];rcases a with h | h <;> simp [h]);simp [this]};rw [show decide (q<k+1)=decide (q<k) by simp only [decide_eq_decide];omega]};rw [xw a];simp only [not_or,Bool.not_eq_false]at a;by_cases b:lS (dX p s k) (dX p s g)=false;{rw [aa2 b,Nat.testBit_or,c,Nat.testBit_two_pow];by_cases h:q=k;{subst h;(have:qL p s z.testBit g q=true:=by rw [qL,a.1,b];simp [a.2]);simp [this]};rw [show decide (q<k+1)=decide (q<k) by simp only [decide_eq_decide];omega,acB (show ¬ k=q by omega),Bool.or_false]};rw [xw b,c];by_cases h:q=k;{subst h;(have:qL p s z.testBit g q=false:=by rw [qL];simp at b;simp [b]);simp [this]};rw [show decide (q<k+1)=decide (q<k) by simp only [decide_eq_decide];omega]
theorem Yp {p:ak} {s:cZ} {f:Nat->Bool} {z:Nat} {g:Int} (h:∀ q:Nat,q<6->(q:Int)≠g->f q=z.testBit q) (c:∀ q,6<=q->f q=false):qH p s f g 6=(yN p s z g).testBit:=by
 funext q;rw [yN,Ia,qH];by_cases a:q<6
 ·rw [aa2 a,adx a,adZ];by_cases b:(q:Int)=g;{simp [qL,b]};rw [qL,qL,h q a b]
 rw [xw a,acB a,aes,c q (by omega)]
def Jj {α:Type} (q:α->Bool) (l:List α):Int:=match l.findIdx? q with | some i=>(i:Int) | none => -1
theorem TL {α:Type} {q:α->Bool} {l:List α} {d:α} {i:Nat} (hi:i<l.length) (hx:q (l.getD i d)=true) (hn:∀ j,j<i->q (l.getD j d)=false):Jj q l=i:=by
 have g:∀ j (h:j<l.length),l.getD j d=l[j]:=λj h=>by simp [aae,h]
 have e:l.findIdx? q=some i:=by rw [List.findIdx?_eq_some_iff_getElem];refine ⟨hi,by rw [<- g i hi];exact hx,λj a=>?_⟩;intro h;rw [<- g j (by omega),hn j a]at h;cases h
 rw [Jj,e]
theorem TJ {α:Type} {q:α->Bool} {l:List α} {d:α} (hn:∀ j,j<l.length->q (l.getD j d)=false):Jj q l = -1:=by
 have e:l.findIdx? q=none:=by rw [List.findIdx?_eq_none_iff];intro x hx;obtain ⟨j,a,rfl⟩:=aeA hx;have:=hn j a;simpa [aae,a]using this
 rw [Jj,e]
theorem O8 {α:Type} (q:α->Bool) (l:List α):decide (Jj q l>=0)=l.any q:=by
 unfold Jj;cases h:l.findIdx? q with| none=>rw [List.findIdx?_eq_none_iff]at h;(have:l.any q=false:=by simpa using h);rw [this];rfl| some i=>rw [List.findIdx?_eq_some_iff_getElem]at h;obtain ⟨a,b,_⟩:=h;have:l.any q=true:=List.any_eq_true.2 ⟨l[i],acr a,b⟩;rw [this];exact adx (Int.natCast_nonneg i)
theorem Cm {p:ak} {s:cZ} {x:bF} (h:x∈aF p s):0<=x.go/\x.go<6:=by
 unfold aF at h;split at h
 ·obtain ⟨g,hg,hx⟩:=List.mem_flatMap.1 h;obtain ⟨a,_,rfl⟩:=List.mem_map.1 hx;obtain ⟨j,b,c,_⟩:=xX.1 hg;simp only;omega
 cases h
theorem ab2 (x:iW):AC Tryz.prog T aH 177 [bV x] [] (.bool (x.status==5)) []:=by
 refine aX Tryz.func177 ?_;refine sg rfl (sg rfl ?_);exact WP.ret (fin1 hT (by rfl) rfl)
theorem abN (x:bF) (z:Nat) (b:z<64) (hx:0<=x.go/\x.go<6):AC Tryz.prog T aH 179 [aT x,.rp 161 (oN z)] [] (.bool (!z.testBit x.go.toNat)) []:=by
 refine aX Tryz.func179 ?_;refine sg rfl (sq (rgs [CG.pure (.bool (z.testBit x.go.toNat))] rfl ?_ ?_))
 ·have a:=Ri z x.go.toNat b (by omega);rw [show ((x.go.toNat:Nat):Int)=x.go by omega]at a;exact au
 exact WP.ret (fin1 hT (by rfl) rfl)
abbrev UU (t:Nat) {α:Type} (f:Bool) (enc:α->AV) (d:α) (l:List α):AV := .row t f l.length (λi=>enc (l.getD i d))
theorem Yx (g:Bool) (l:List iW) (z:Nat):AC Tryz.prog T aH 236 [UU 59 g bV go0 l,(.clo 177 [])] [] (.int (Jj (λx:iW=>x.status==5) l)) []:=by
 refine aX Tryz.func236 ?_;refine WP.rowlen 0 rfl (λe=>?_);refine sg rfl (sq (sq (rg [] rfl ?_)));refine bk (WP.loop (α:=Nat) (λi=>aN [(0,UU 59 g bV go0 l),(1,(.clo 177 [])),(7,.int l.length),(8,.int i)] []) (λi=>i<=l.length /\ ∀ j,j<i->(λx:iW=>x.status==5) (l.getD j go0)=false) (λi=>l.length - i) ?_ ?_)
 ·refine ⟨0,?_,?_⟩;{exact ⟨abq _,λj h=>by omega⟩};refine eX cX trivial
 rintro i ⟨hi,hn⟩;refine sg rfl (sq ?_);refine cd rfl (λc=>?_) (λc=>?_);{(have b:i<l.length:=by simpa using c);refine sk (sq (bk (sq (rg [] rfl ?_))));refine sq (rgs [CG.pure (.bool ((λx:iW=>x.status==5) (l.getD i go0)))] rfl ?_ ?_);{have f:=ab2 (l.getD i go0);(have a:0<=(i:Int)/\(i:Int)<(l.length:Int):=by omega);simp only [ay,under,CG.pure];(repeat' with_reducible refine And.intro ?_ ?_);(all_goals (try with_reducible intros));all_goals (first | exact trivial | assumption | omega | exact f | exact a | exact a.1 | exact a.2 | (simp;done) | grind)};refine cd rfl (λd=>?_) (λd=>?_);{exact sg rfl (WP.ret (bf hT (by rfl) (TL b d hn).symm))};refine sk (rg [] rfl ?_);refine ⟨i+1,?_,?_,?_⟩;{exact ⟨b,all_succ (Q:=λj=>(λx:iW=>x.status==5) (l.getD j go0)=false) hn d⟩};{refine eX cX trivial};(try simp only []);first | omega | grind};(have b:i=l.length:=by simp at c;omega);subst b;refine xt (sq (rg [] rfl ?_));exact WP.ret (bf hT (by rfl) (TJ hn).symm)
theorem Zb (g:Bool) (l:List iW) (z:Nat):AC Tryz.prog T aH 176 [UU 59 g bV go0 l,(.clo 177 [])] [] (.bool (l.any (λx:iW=>x.status==5))) []:=by
 refine aX Tryz.func176 ?_;refine sg rfl (sq (rgs [CG.pure (.int (Jj (λx:iW=>x.status==5) l))] rfl ?_ ?_))
 ·have a:=Yx g l z;exact au
 exact WP.ret (fin1 hT (by rfl) (O8 _ _))
theorem Yw (g:Bool) (l:List bF) (z:Nat) (h:z<64) (hl:∀ x∈l,0<=x.go/\x.go<6):AC Tryz.prog T aH 174 [UU 122 g aT dG l,(.clo 179 [.rp 161 (oN z)])] [] (.int (Jj (λx:bF => !z.testBit x.go.toNat) l)) []:=by
 refine aX Tryz.func174 ?_;refine WP.rowlen 0 rfl (λe=>?_);refine sg rfl (sq (sq (rg [] rfl ?_)));refine bk (WP.loop (α:=Nat) (λi=>aN [(0,UU 122 g aT dG l),(1,(.clo 179 [.rp 161 (oN z)])),(7,.int l.length),(8,.int i)] []) (λi=>i<=l.length /\ ∀ j,j<i->(λx:bF => !z.testBit x.go.toNat) (l.getD j dG)=false) (λi=>l.length - i) ?_ ?_)
 ·refine ⟨0,?_,?_⟩;{exact ⟨abq _,λj k=>by omega⟩};refine eX cX trivial
 rintro i ⟨hi,hn⟩;refine sg rfl (sq ?_);refine cd rfl (λc=>?_) (λc=>?_);{(have a:i<l.length:=by simpa using c);refine sk (sq (bk (sq (rg [] rfl ?_))));refine sq (rgs [CG.pure (.bool ((λx:bF => !z.testBit x.go.toNat) (l.getD i dG)))] rfl ?_ ?_);{have f:=abN (l.getD i dG) z h (hl _ (by rw [aae,Y0 a];exact acr _));(have b:0<=(i:Int)/\(i:Int)<(l.length:Int):=by omega);simp only [ay,under,CG.pure];(repeat' with_reducible refine And.intro ?_ ?_);(all_goals (try with_reducible intros));all_goals (first | exact trivial | assumption | omega | exact f | exact b | exact b.1 | exact b.2 | (simp;done) | grind)};refine cd rfl (λd=>?_) (λd=>?_);{exact sg rfl (WP.ret (bf hT (by rfl) (TL a d hn).symm))};refine sk (rg [] rfl ?_);refine ⟨i+1,?_,?_,?_⟩;{exact ⟨a,all_succ (Q:=λj=>(λx:bF => !z.testBit x.go.toNat) (l.getD j dG)=false) hn d⟩};{refine eX cX trivial};(try simp only []);first | omega | grind};(have a:i=l.length:=by simp at c;omega);subst a;refine xt (sq (rg [] rfl ?_));exact WP.ret (bf hT (by rfl) (TJ hn).symm)
theorem Za (g:Bool) (l:List bF) (z:Nat) (a:z<64) (hl:∀ x∈l,0<=x.go/\x.go<6):AC Tryz.prog T aH 178 [UU 122 g aT dG l,(.clo 179 [.rp 161 (oN z)])] [] (.bool (l.any (λx:bF => !z.testBit x.go.toNat))) []:=by
 refine aX Tryz.func178 ?_;refine sg rfl (sq (rgs [CG.pure (.int (Jj (λx:bF => !z.testBit x.go.toNat) l))] rfl ?_ ?_))
 ·have b:=Yw g l z a hl;exact au
 exact WP.ret (fin1 hT (by rfl) (O8 _ _))
theorem Jv {s:cZ}:∀ {k:Nat},nI false s k=true ↔ ∃ i,i<k/\((s.gos.getD i go0).status==5)=true
 | 0=>by simp [nI]
 | k+1=>by rw [nI,adP,Jv (k:=k)];constructor;{rintro (⟨i,b,a⟩ | h);{exact ⟨i,by omega,a⟩};exact ⟨k,by omega,h⟩};rintro ⟨i,b,a⟩;by_cases e:i=k;{subst e;exact .inr a};exact .inl ⟨i,by omega,a⟩
theorem Uw {s:cZ} (h:s.gos.length=6):(s.gos.any λx:iW=>x.status==5)=nI false s 6:=by
 rw [acs,Jv,aeM];constructor
 ·rintro ⟨x,hx,a⟩;obtain ⟨j,b,rfl⟩:=aeA hx;exact ⟨j,by omega,by simpa [aae,b]using a⟩
 rintro ⟨i,hi,a⟩;exact ⟨s.gos[i],acr (by omega),by simpa [aae,h▸hi,(show i<s.gos.length by omega)]using a⟩
def oZ (i:Id) (p:ak) (b:dO) (t:SS):AV:=bC 150 [aj p,bY b,.own i t.runs.length 0 t.runs.length none,.int t.given,.bool t.over,.bool t.short]
abbrev rU (p:ak) (b:dO) (t:SS):Ob := .cells ⟨150,1,λ_=>oZ (.b 1) p b t,0⟩
theorem qM {a:Id->Id} {i j:Id} (c:a i=j) (p:ak) (b:dO) (t:SS):ren a (oZ i p b t)=oZ j p b t:=bH (λq=>by
 match q with
 | 0=>exact ug a p
 | 1=>exact Ce a b
 | 2=>show AV.own (a i) _ 0 _ none=_;rw [c];rfl
 | 3 | 4 | 5 | q+6=>rfl)
theorem QG (i:Id) (p:ak) (b:dO) (t:SS) (x:Bool):(oZ i p b t).put [4] (.bool x)=oZ i p b { t with over:=x}:=dh (abZ rfl)
theorem zl (i:Id) (p:ak) (b:dO) (t:SS) (x:Bool):(oZ i p b t).put [5] (.bool x)=oZ i p b { t with short:=x}:=dh (abZ rfl)
theorem Ou (i:Id) (p:ak) (b:dO) (t:SS) (x:Nat):(oZ i p b t).put [3] (.int x)=oZ i p b { t with given:=x}:=dh (abZ rfl)
abbrev okT (b:dO) (t:SS):Prop:=t.cnt<=65536
theorem ZU (p:ak) (b:dO) (t:SS) (ht:okT b t):AC Tryz.prog T aH 181 [.ptr (.b 0) 1 0 []] [rU p b t,bD t.runs] (.bool (!(iO b t).over)) [rU p b (iO b t),bD t.runs]:=by
 refine aX Tryz.func181 ?_;refine sg rfl (sq ?_);have hc:t.runs.length+t.given<=65536:=ht;refine drs [] rfl ?_ ?_
 ·simp [ay,under]
 refine sq (wE [(0,.ptr (.b 0) 1 0 [])] [(.b 0,rU p b (iO b t)),(.b 1,bD t.runs)] ⟨obs rfl (hg:=q0 (ah ((QG _ p b t _).trans (by rw [bK (by omega) (by omega),iO,SS.cnt,fG];push_cast;rfl)))),obs rfl,tt⟩ ?_);exact rg [] rfl (WP.ret (aJ hT [] (ts:=[(2,.bool (!(iO b t).over))]) (l:=[.bool (!(iO b t).over)]) trivial cX ⟨obs rfl,obs rfl,tt⟩ rfl rfl rfl))
theorem LD {a:Id->Id} (c:a (.b 1) = .b 1) (p:ak) (b:dO) (t:SS):fK a (rU p b t)=rU p b t:=by
 show Ob.cells ⟨_,_,λ_=>ren a (oZ (.b 1) p b t),_⟩=_;rw [qM c]
theorem qO {ids:List Id} {p:ak} {b:dO} {t:SS} {L:List xg} (h:fZ ids (oZ (.b 1) p b t)=true):jm ids [rU p b t,bD L]:=⟨λ_ _=>h,λ_ _=>rfl,tt⟩
theorem Oc (p:ak) (b:dO) (t:SS) (ht:okT b t):AC Tryz.prog T aH 181 [.ptr (.b 0) 1 0 []] [fK (sig [.b 0,.b 1] 0) (rU p b t),fK (sig [.b 0,.b 1] 0) (bD t.runs)] (.bool (!(iO b t).over)) [rU p b (iO b t),bD t.runs]:=by
 rw [LD rfl,jy (gK _)];exact ZU p b t ht
theorem abz (p:ak) (b:dO) (t:SS) (ht:okT b t) (picks:List bF) (hp:picks.length<=256) (cut:Bool):AC Tryz.prog T aH 180 [.ptr (.b 0) 1 0 [],dB picks,.bool cut] [rU p b t,bD t.runs] (.tup []) [rU p b (pG b t picks cut),bD (pG b t picks cut).runs]:=by
 refine aX Tryz.func180 ?_;refine sq (rgs [⟨true,[.b 0,.b 1],.bool (!(iO b t).over),[rU p b (iO b t),bD t.runs]⟩] rfl ?_ ?_)
 ·have c:=Oc p b t ht;have f:jm [.b 0,.b 1] [rU p b t,bD t.runs]:=qO rfl;have g:jm (bs 2) [rU p b (iO b t),bD t.runs]:=qO rfl;exact au
 refine cd rfl (λd=>?_) (λd=>?_)
 ·have a:(iO b t).over=false:=by simpa using d
  refine sq (wE [(0,.ptr (.b 0) 1 0 []),(1,dB picks),(2,.bool cut)] [(.b 0,.cells ⟨150,1,λ_=>bC 150 [aj p,bY b,.own (.b 1) t.runs.length 0 t.runs.length none,.int t.given,.bool (iO b t).over,.bool t.short],0⟩),(.b 1,bD t.runs)] ⟨obs rfl (hg:=q0 (ah (qM rfl p b _))),obs rfl (hg:=λq c=>ah (gK _ _)),tt⟩ ?_)
  have hc:t.runs.length+t.given<=65536:=ht
  refine drs [CG.pure (dB picks)] rfl ?_ ?_
  ·have c:=RJ picks (by omega);have e:(T 45).bytes=32:=rfl;exact au
  refine wE [(0,.ptr (.b 0) 1 0 []),(2,.bool cut)] [(.b 0,rU p b { iO b t with runs:=t.runs++[⟨picks,cut,false⟩] }),(.b 1,bD (t.runs++[⟨picks,cut,false⟩]))] ⟨obs rfl (hg:=q0 (ah (Eq.trans (b:=bC 150 [aj p,bY b,.own (.b 1) (t.runs.length+1) 0 (t.runs.length+1) none,.int t.given,.bool (iO b t).over,.bool t.short]) (bH λq=>by match q with | 0 | 1 | 2 | 3 | 4 | 5 | q+6=>rfl) (ac8 (λn=>bC 150 [aj p,bY b,.own (.b 1) n 0 n none,.int t.given,.bool (iO b t).over,.bool t.short]) (show t.runs.length+1=(t.runs++[(⟨picks,cut,false⟩:xg)]).length from (dA _ _).symm))))),dL (Ei _) rfl rfl (by rw [dA]) rfl rfl (DI (z:=(T 45).zero) rfl (bH λq=>by match q with | 0 | 1 | 2 | q+3=>rfl) (λq c=>rfl)),tt⟩ (rg [] rfl ?_)
  change Fin ..
  first
  | (
   rw [show pG b t picks cut={ iO b t with runs:=t.runs++[⟨picks,cut,false⟩],short:=t.short||cut} by rw [pG,xw (by rw [a];decide)]]
   exact aJ hT [] (ts:=[]) (l:=[]) trivial trivial ⟨obs rfl (hg:=q0 (ah ((zl _ p b _ _).trans (by rw [fG];rfl)))),obs rfl,tt⟩ rfl rfl rfl)
  | (
   rw [show pG b t picks cut=iO b t by rw [pG,aa2 a]]
   exact aJ hT [] (ts:=[]) (l:=[]) trivial trivial ⟨obs rfl (hg:=q0 (ah (qM rfl p b _))),obs rfl (hg:=λq c=>ah (gK _ _)),tt⟩ rfl rfl rfl)
 ·have a:(iO b t).over=true:=by simpa using d
  refine sk ?_
  change Fin ..
  first
  | (
   rw [show pG b t picks cut={ iO b t with runs:=t.runs++[⟨picks,cut,false⟩],short:=t.short||cut} by rw [pG,xw (by rw [a];decide)]]
   exact aJ hT [] (ts:=[]) (l:=[]) trivial trivial ⟨obs rfl (hg:=q0 (ah ((zl _ p b _ _).trans (by rw [fG];rfl)))),obs rfl,tt⟩ rfl rfl rfl)
  | (
   rw [show pG b t picks cut=iO b t by rw [pG,aa2 a]]
   exact aJ hT [] (ts:=[]) (l:=[]) trivial trivial ⟨obs rfl (hg:=q0 (ah (qM rfl p b _))),obs rfl (hg:=λq c=>ah (gK _ _)),tt⟩ rfl rfl rfl)
theorem KW {p:ak} {b:dO} {k:Nat} {s:cZ} {picks:List bF} {z:Nat} {t:SS} (h:aF p s=[]):jO p b k s picks z t=pG b (eU t s) picks false:=by
 cases k <;> rw [jO,aa2 h]
theorem Gq {p:ak} {b:dO} {k:Nat} {s:cZ} {picks:List bF} {z:Nat} {t:SS} (h:aF p s≠[]) (a:kQ (aF p s) z=false):jO p b k s picks z t=Gv b (eU t s):=by
 cases k <;> rw [jO,xw h,aa2 a]
theorem KU {p:ak} {b:dO} {s:cZ} {picks:List bF} {z:Nat} {t:SS} (h:aF p s≠[]) (a:¬ kQ (aF p s) z=false):jO p b 0 s picks z t=pG b (eU t s) picks true:=by
 rw [jO,xw h,xw a]
abbrev stepS (p:ak) (b:dO) (k:Nat) (s:cZ) (picks:List bF) (x:bF) (g:Nat) (t:SS):SS:=jO p b k (pY p s x b.fuel).1 (picks++[x]) (yN p s g x.go) t
theorem ND {p:ak} {b:dO} {k:Nat} {s:cZ} {picks:List bF} {z:Nat} {t:SS} (h:aF p s≠[]) (a:¬ kQ (aF p s) z=false):jO p b (k+1) s picks z t=((aF p s).foldl (vJ (stepS p b k s picks) z) (eU t s,z)).1:=by
 rw [jO,xw h,xw a]
theorem Jw {p:ak} {b:dO} (hb:rP b) {k:Nat} {s:cZ} {picks:List bF} {z:Nat} {t:SS} (a:t.over=false) (h:(t.cnt:Int)<=b.runs):((jO p b k s picks z t).cnt:Int)<=b.runs:=(ZJ k s picks z t a).most h
abbrev WY (p:ak) (b:dO) (k:Nat):Prop := ∀ (s:cZ) (picks:List bF) (z:Nat) (t:SS),picks.length+k=b.steps.toNat->oh s->z<64->t.over=false->(t.cnt:Int)<=b.runs->AC Tryz.prog T aH 119 [.ptr (.b 0) 1 0 [],encS s,dB picks,oN z] [rU p b t,bD t.runs] (.tup []) [rU p b (jO p b k s picks z t),bD (jO p b k s picks z t).runs]
theorem ZK {p:ak} {b:dO} {k:Nat} (r:WY p b k) (s:cZ) (picks:List bF) (x:bF) (z:Nat) (t:SS) (l:picks.length+1+k=b.steps.toNat) (m:oh s) (q:z<64) (o:t.over=false) (hc:(t.cnt:Int)<=b.runs) {n:Nat} {f:Bool} {g:Nat->AV} (hn:n=picks.length+1) (hg:∀ j,j<picks.length+1->g j=aT ((picks++[x]).getD j dG)):AC Tryz.prog T aH 119 [.ptr (.b 0) 1 0 [],ren (sig [.b 0,.b 1] 0) (encS s),.row 122 f n g,oN z] [fK (sig [.b 0,.b 1] 0) (rU p b t),fK (sig [.b 0,.b 1] 0) (bD t.runs)] (.tup []) [rU p b (jO p b k s (picks++[x]) z t),bD (jO p b k s (picks++[x]) z t).runs]:=by
 subst hn;rw [JG,LD rfl,jy (gK _)];refine AC.args hT (r s (picks++[x]) z t (by rw [dA];exact l) m q o hc) rfl (λi a c d hc=>?_);match i,d,hc with| 0,d,hc=>cases d;cases hc;exact ah rfl| 1,d,hc=>cases d;cases hc;exact ah rfl| 2,d,hc=>cases d;cases hc;(have e:dB (picks++[x]) = .row 122 false (picks.length+1) (λi=>aT ((picks++[x]).getD i dG)):=by rw [<- dA picks x];rfl);rw [e];exact wW (λh=>by cases h) hg| 3,d,hc=>cases d;cases hc;exact ah rfl
theorem SE (p:ak) (b:dO) (t:SS) (ht:okT b t) (picks:List bF) (hp:picks.length<=256) (cut:Bool):AC Tryz.prog T aH 180 [.ptr (.b 0) 1 0 [],dB picks,.bool cut] [fK (sig [.b 0,.b 1] 0) (rU p b t),fK (sig [.b 0,.b 1] 0) (bD t.runs)] (.tup []) [rU p b (pG b t picks cut),bD (pG b t picks cut).runs]:=by
 rw [LD rfl,jy (gK _)];exact abz p b t ht picks hp cut
theorem aaT (s:cZ) (h:s.gos.length=6) {n:Nat} {g:Nat->AV} (hn:n=6) (hg:∀ j,j<6->g j=bV (s.gos.getD j go0)):AC Tryz.prog T aH 176 [.row 59 true n g,.clo 177 []] [] (.bool (nI false s 6)) []:=by
 subst hn;rw [<- Uw h];refine AC.args hT (Zb true s.gos 0) rfl (λi a c b hc=>?_);match i,b,hc with| 0,b,hc=>cases b;cases hc;show Conv _ _ _ _ (.row 59 true s.gos.length (λi=>bV (s.gos.getD i go0)));rw [h];exact wW (λh=>h) hg| 1,b,hc=>cases b;cases hc;exact ah rfl
theorem NC (p:ak) (b:dO) (hb:rP b) (k:Nat) (m:∀ k',k=k'+1->WY p b k') (s:cZ) (picks:List bF) (z:Nat) (t:SS) (hk:picks.length+k=b.steps.toNat) (hs:oh s) (hz:z<64) (ho:t.over=false) (hc:(t.cnt:Int)<=b.runs):AC Tryz.prog T aH 119 [.ptr (.b 0) 1 0 [],encS s,dB picks,oN z] [rU p b t,bD t.runs] (.tup []) [rU p b (jO p b k s picks z t),bD (jO p b k s picks z t).runs]:=by
 refine aX Tryz.func119 ?_;have c8:=hb.1;have c9:=hb.2.2;refine sg rfl (sq ?_);refine wQ [(.s 5 0,1),(.s 7 0,1)] [(0,.ptr (.b 0) 1 0 []),(2,dB picks),(5,.rp 62 (encS s)),(7,.rp 161 (oN z))] [(.b 0,rU p b t),(.b 1,bD t.runs)] ⟨obs rfl,obs rfl,tt⟩ (rgs [CG.pure (.bool (nI false s 6))] rfl ?_ ?_)
 ·clear m;have d:=λ{n g}=>aaT s hs.gos (n:=n) (g:=g);simp only [ay,under,CG.pure];(repeat' with_reducible refine And.intro ?_ ?_);(all_goals (try with_reducible intros));all_goals (first | exact trivial | assumption | exact d rfl (λj hj=>by show bV (s.gos.getD (0+j) go0)=_;rw [ada]) | (simp [qB,qC];done) | (simp;done) | (simp_all;done) | trace_state)
 refine sq (wE [(0,.ptr (.b 0) 1 0 []),(2,dB picks),(5,.rp 62 (encS s)),(7,.rp 161 (oN z))] [(.b 0,rU p b (eU t s)),(.b 1,bD t.runs)] ⟨obs rfl (hg:=q0 (ah ((zl _ p b t _).trans (by rw [fG])))),obs rfl,tt⟩ ?_);refine drs [CG.pure (.tup [dB (aF p s),.int (mM p s)])] rfl ?_ ?_
 ·clear m;have d:=JH p s hs;exact au
 refine sq (rgs [CG.pure (.bool (kQ (aF p s) z))] rfl ?_ ?_)
 ·clear m;have d:=Za false (aF p s) z hz (λx hx=>Cm hx);exact au
 refine sq (bk (sq (rg [] rfl ?_)));refine cd rfl (λh4=>?_) (λh4=>?_)
 ·(have hr:aF p s=[]:=by simpa using h4);rw [KW hr];refine sq (rgs [⟨true,[.b 0,.b 1],.tup [],[rU p b (pG b (eU t s) picks false),bD (pG b (eU t s) picks false).runs]⟩] rfl ?_ ?_);{clear m;have d:=SE p b (eU t s) (show t.cnt<=65536 by omega) picks (by omega) false;have y:jm [.b 0,.b 1] [rU p b (eU t s),bD t.runs]:=qO rfl;have a0:jm (bs 2) [rU p b (pG b (eU t s) picks false),bD (pG b (eU t s) picks false).runs]:=qO rfl;exact au};exact WP.ret (aJ hT [] (ts:=[]) (l:=[]) trivial trivial ⟨obs rfl (hg:=q0 (ah (qM rfl p b _))),obs rfl (hg:=λq d=>ah (gK _ _)),tt⟩ rfl rfl rfl)
 (have hr:aF p s≠[]:=by simpa using h4);refine sg rfl (cd rfl (λh6=>?_) (λh6=>?_));{(have ha:kQ (aF p s) z=false:=by simpa using h6);rw [Gq hr ha];refine sq (sq (rgs [⟨true,[.b 0,.b 1],.bool (!(iO b (eU t s)).over),[rU p b (iO b (eU t s)),bD t.runs]⟩] rfl ?_ ?_));{clear m;have d:=Oc p b (eU t s) (show t.cnt<=65536 by omega);have y:jm [.b 0,.b 1] [rU p b (eU t s),bD t.runs]:=qO rfl;have a0:jm (bs 2) [rU p b (iO b (eU t s)),bD t.runs]:=qO rfl;exact au};refine cd rfl (λh7=>?_) (λh7=>?_);{(have hv:¬ (iO b (eU t s)).over=true:=by simpa using h7);(have d0:t.runs.length+t.given<=65536:=show t.cnt<=65536 by omega);refine rgs [] rfl ?_ ?_;{simp [ay,under]};refine rX ?_;rw [Gv,xw hv];refine aJ hT [] (ts:=[]) (l:=[]) trivial trivial ⟨obs rfl (hg:=q0 (ah ?_)),obs rfl (hg:=λq d=>ah (gK _ _)),tt⟩ rfl rfl rfl;refine (ac8 (λa=>AV.put a [3] _) (qM (j := .b 1) rfl p b (iO b (eU t s)))).trans ?_;rw [show IntKind.i64.wrap (((iO b (eU t s)).given:Int)+1)=((t.given+1:Nat):Int)from (bK (by show _<=(t.given:Int)+1;omega) (by show (t.given:Int)+1<_;omega))];exact Ou _ p b (iO b (eU t s)) (t.given+1)};(have hv:(iO b (eU t s)).over=true:=by simpa using h7);refine sk (rX ?_);rw [Gv,aa2 hv];exact aJ hT [] (ts:=[]) (l:=[]) trivial trivial ⟨obs rfl (hg:=q0 (ah (qM rfl p b _))),obs rfl (hg:=λq d=>ah (gK _ _)),tt⟩ rfl rfl rfl};(have ha:¬ kQ (aF p s) z=false:=by simpa using h6);refine sg rfl (cd rfl (λh9=>?_) (λh9=>?_));{(have b3:k=0:=by have b1:(picks.length:Int)=b.steps:=(by simpa using h9);omega);subst b3;rw [KU hr ha];refine sq (rgs [⟨true,[.b 0,.b 1],.tup [],[rU p b (pG b (eU t s) picks true),bD (pG b (eU t s) picks true).runs]⟩] rfl ?_ ?_);{clear m;have d:=SE p b (eU t s) (show t.cnt<=65536 by omega) picks (by omega) true;have y:jm [.b 0,.b 1] [rU p b (eU t s),bD t.runs]:=qO rfl;have a0:jm (bs 2) [rU p b (pG b (eU t s) picks true),bD (pG b (eU t s) picks true).runs]:=qO rfl;exact au};exact WP.ret (aJ hT [] (ts:=[]) (l:=[]) trivial trivial ⟨obs rfl (hg:=q0 (ah (qM rfl p b _))),obs rfl (hg:=λq d=>ah (gK _ _)),tt⟩ rfl rfl rfl)};(obtain ⟨n,hn⟩:∃ n,k=n+1:=by refine ⟨k - 1,?_⟩;(have b1:(picks.length:Int)≠b.steps:=by simpa using h9);omega);subst hn;rw [ND hr ha];refine sk (sq (rg [] rfl ?_));refine sg rfl (bk ?_);refine WP.loop (α:=Nat×(SS×Nat)) (λ(⟨i,a⟩:Nat×(SS×Nat))=>aN [(0,.ptr (.b 0) 1 0 []),(2,dB picks),(5,.rp 62 (encS s)),(7,.rp 161 (oN z)),(11,oN a.2),(73,dB (aF p s)),(74,.int (aF p s).length),(75,.int i)] [(.b 0,rU p b a.1),(.b 1,bD a.1.runs)]) (λ(⟨i,a⟩:Nat×(SS×Nat))=>i<=(aF p s).length/\a.2<64/\(a.1.cnt:Int)<=b.runs/\((aF p s).drop i).foldl (vJ (stepS p b n s picks) z) a=(aF p s).foldl (vJ (stepS p b n s picks) z) (eU t s,z)) (λ(⟨i,a⟩:Nat×(SS×Nat))=>(aF p s).length - i) ?_ ?_;{refine ⟨⟨0,(eU t s,z)⟩,?_,?_⟩;{exact ⟨abq _,hz,hc,rfl⟩};refine eX cX ⟨obs rfl,obs rfl,tt⟩};rintro ⟨i,a⟩ ⟨d1,o,w,c⟩;refine WP.rowlen 73 rfl (λhl=>?_);refine sg rfl (sq ?_);refine cd rfl (λv=>?_) (λv=>?_);{(have f:i<(aF p s).length:=by simp [-List.getD_eq_getElem?_getD]at v;omega);(have hdr:(aF p s).drop i=(aF p s).getD i dG::(aF p s).drop (i+1):=by rw [List.drop_eq_getElem_cons f];simp [f]);rw [hdr,aeX]at c;obtain ⟨x,hx⟩:∃ x,(aF p s).getD i dG=x:=⟨_,rfl⟩;rw [hx]at c;(have c3:x∈aF p s:=by rw [<- hx,aae,Y0 f];exact acr _);have d3:=Cm c3;(have a4:((x.go.toNat:Nat):Int)=x.go:=by omega);refine sk (sq (bk (sq (rg [] rfl ?_))));refine sq (sq ?_);refine wF [(.s 13 0,1)] ⟨sF,tt⟩ [(0,.ptr (.b 0) 1 0 []),(2,dB picks),(5,.rp 62 (encS s)),(7,.rp 161 (oN z)),(11,oN a.2),(13,.rp 122 (aT x)),(73,dB (aF p s)),(74,.int (aF p s).length),(75,.int i)] [(.b 0,rU p b a.1),(.b 1,bD a.1.runs)] ⟨cq,cq,cq,cq,cq,⟨rfl,_,rfl,bM rfl rfl (by decide) rfl (by rw [<- hx];rfl) rfl⟩,cq,cq,cq,tt⟩ ⟨obs rfl,obs rfl,tt⟩ (rgs [CG.pure (.bool (z.testBit x.go.toNat))] rfl ?_ ?_);{clear m;have d:=Ri z x.go.toNat hz (by omega);rw [a4]at d;exact au};refine cd rfl (λh=>?_) (λh=>?_);{(have r:z.testBit x.go.toNat=true\/a.1.over=true:=by simp only [fG]at h;simpa using h);have e3:vJ (stepS p b n s picks) z a x=a:=aa2 r;refine xt (rg [] rfl ?_);refine ⟨⟨i+1,a⟩,?_,?_,?_⟩;{exact ⟨f,o,w,by rw [<- c,e3]⟩};{refine eX cX ⟨obs rfl,obs rfl,tt⟩};(try simp only []);first | omega | grind};(have r:¬ (z.testBit x.go.toNat=true\/a.1.over=true):=by simp only [fG]at h;simpa using h);have e3:vJ (stepS p b n s picks) z a x=(stepS p b n s picks x a.2 a.1,a.2 ||| 2 ^ x.go.toNat):=xw r;(have a1:a.1.over=false:=by simpa using λe=>r (.inr e));obtain ⟨u,hu⟩:∃ u,stepS p b n s picks x a.2 a.1=u:=⟨_,rfl⟩;(have c1:(u.cnt:Int)<=b.runs:=by rw [<- hu];exact Jw hb a1 w);rw [hu]at e3;refine sk (sq (drs [CG.pure (.tup [encS (pY p s x b.fuel).1,iJ (pY p s x b.fuel).2.1,.int (pY p s x b.fuel).2.2])] rfl ?_ ?_));{clear m;have d:=abh p s x b.fuel hs;exact au};refine sq (wQ [(.s 14 0,1)] [(0,.ptr (.b 0) 1 0 []),(2,dB picks),(5,.rp 62 (encS s)),(7,.rp 161 (oN z)),(11,oN a.2),(13,.rp 122 (aT x)),(14,.rp 62 (encS (pY p s x b.fuel).1)),(73,dB (aF p s)),(74,.int (aF p s).length),(75,.int i)] [(.b 0,rU p b a.1),(.b 1,bD a.1.runs)] ⟨obs rfl,obs rfl,tt⟩ ?_);refine drs [CG.pure (.row 122 true picks.length (λi=>aT (picks.getD i dG))),CG.pure (oN (yN p s a.2 x.go)),⟨true,[.b 0,.b 1],.tup [],[rU p b u,bD u.runs]⟩] rfl ?_ ?_;{have b7:=VZ picks;have b8:=aau p s a.2 x.go hs o;have b2:(T 122).bytes=16:=rfl;have y:jm [.b 0,.b 1] [rU p b a.1,bD a.1.runs]:=qO rfl;have a0:jm (bs 2) [rU p b u,bD u.runs]:=qO rfl;have c5:=m n rfl;clear m;(have b6:picks.length+1+n=b.steps.toNat:=by omega);(have d2:picks.length<256:=by omega);have b5:=Y7 (p:=p) (x:=x) (n:=b.fuel) hs;have b4:yN p s a.2 x.go<64:=zV p s a.2 x.go 6;have c0:=hu.symm;simp only [ay,under,CG.pure];(repeat' with_reducible refine And.intro ?_ ?_);(all_goals (try with_reducible intros));all_goals (first | exact trivial | assumption | omega | exact b7 | exact b8 | (refine (ac8 fC (RU picks x _ ?_ ?_)).trans rfl <;> first | rfl | omega) | (rw [c0];exact ZK c5 _ picks x _ a.1 b6 b5 b4 a1 w (by rfl) (λj hj=>RU picks x j hj (by rfl))) | (rw [b2];omega) | (simp;done) | trace_state)};refine wE [(0,.ptr (.b 0) 1 0 []),(2,dB picks),(5,.rp 62 (encS s)),(7,.rp 161 (oN z)),(11,oN a.2),(13,.rp 122 (aT x)),(73,dB (aF p s)),(74,.int (aF p s).length),(75,.int i)] [(.b 0,rU p b u),(.b 1,bD u.runs)] ⟨obs rfl (hg:=q0 (ah (qM rfl p b _))),obs rfl (hg:=λq d=>ah (gK _ _)),tt⟩ (rgs [CG.pure (oN (a.2 ||| 2 ^ x.go.toNat))] rfl ?_ ?_);{clear m;have d:=Sm a.2 x.go.toNat o (by omega);rw [a4]at d;exact au};refine rg [] rfl ⟨⟨i+1,(u,a.2 ||| 2 ^ x.go.toNat)⟩,?_,?_,?_⟩;{exact ⟨f,XT o (by omega),c1,by rw [<- c,e3]⟩};{refine eX cX ⟨obs rfl,obs rfl,tt⟩};(try simp only []);first | omega | grind};(have f:i=(aF p s).length:=by simp [-List.getD_eq_getElem?_getD]at v;omega);refine xt ?_;rw [f,List.drop_length]at c;have c:a=_:=c;rw [<- c];exact aJ hT [] (ts:=[]) (l:=[]) trivial trivial ⟨obs rfl,obs rfl,tt⟩ rfl rfl rfl
theorem YZ (a b:bF):(a==b)=(a.go==b.go&&(a.alt==b.alt&&true)):=by
 obtain ⟨x,y⟩:=a;obtain ⟨z,w⟩:=b;rw [acs];simp
theorem UJ (a b:List bF):AC Tryz.prog T aH 21 [dB a,dB b] [] (.bool (decide (a=b))) []:=by
 refine aX Tryz.func21 ?_;refine WP.rowlen 0 rfl (λo=>?_);refine sg rfl (sq (sq (rg [] rfl ?_)));refine cd rfl (λf=>?_) (λf=>?_)
 ·(have d:a.length≠b.length:=by simp at f;omega);refine sg rfl (rX ?_);exact fin1 hT (by rfl) (by simp;rintro rfl;exact d rfl)
 (have hlen:a.length=b.length:=by simp at f;omega);refine sk (sq (sq (rg [] rfl ?_)));refine bk (WP.loop (α:=Nat) (λi=>aN [(0,dB a),(1,dB b),(12,.int a.length),(13,.int i)] []) (λi=>i<=a.length /\ ∀ j,j<i->a.getD j dG=b.getD j dG) (λi=>a.length - i) ?_ ?_);{refine ⟨0,?_,?_⟩;{exact ⟨abq _,λj n=>by omega⟩};refine eX cX trivial};rintro i ⟨hi,g⟩;refine sg rfl (sq ?_);refine cd rfl (λk=>?_) (λk=>?_);{(have c:i<a.length:=by simpa using k);refine sk (sq (bk (sq (rg [] rfl ?_))));refine sq (drs [] rfl ?_ ?_);{exact au};refine cd rfl (λl=>?_) (λl=>?_);{(have d:a.getD i dG≠b.getD i dG:=by have e:(!(a.getD i dG==b.getD i dG))=true:=(ac8 Bool.not (YZ _ _)).trans l;simpa using e);refine sg rfl (rX ?_);exact fin1 hT (by rfl) (by simp;rintro rfl;exact d rfl)};(have he:a.getD i dG=b.getD i dG:=by have e:(!(a.getD i dG==b.getD i dG))=false:=(ac8 Bool.not (YZ _ _)).trans l;simpa using e);refine sk (rg [] rfl ?_);refine ⟨i+1,?_,?_,?_⟩;{refine ⟨c,λj n=>?_⟩;rcases adv j i with h | h;{exact g j h};(obtain rfl:j=i:=by omega);exact he};{refine eX cX trivial};(try simp only []);first | omega | grind};(have c:i=a.length:=by simp at k;omega);subst c;refine xt (sq (rg [] rfl ?_));refine rX ?_;refine fin1 hT (by rfl) ?_;symm;simp only [acf];refine ae0 hlen (λj f m=>?_);have:=g j f;simpa [f,m]using this
structure KG where
 all:List xg
 whole:Bool
 deriving DecidableEq
def jk (x:KG):AV:=bC 32 [rowP 45 uz vZ x.all,.bool x.whole]
def D6 (a b:KG):Bool:=decide (a=b)
theorem UH (x y:KG):AC Tryz.prog T aH 18 [jk x,jk y] [] (.bool (D6 x y)) []:=by
 refine aX Tryz.func18 ?_;refine sg rfl (sq (sq ?_));refine WP.ent (st':=aN [(2,.rp 32 (jk x)),(3,.rp 32 (jk y))] []) (em [(.s 2 0,1),(.s 3 0,1)] ⟨sF,sF,tt⟩ ⟨rq,rq,tt⟩ trivial) ?_;refine rg [] rfl (cd rfl (λc=>?_) (λc=>?_))
 ·(have k:x≠y:=by rintro rfl;simp only [fG]at c;simp at c);exact sg rfl (WP.ret (fin1 hT (by rfl) (by simp [D6,k])))
 (have hlen:x.all.length=y.all.length/\x.whole=y.whole:=by cases hw:((x.all.length:Int) != y.all.length)with| true=>(rw [hw]at c;cases c)| false=>rw [hw]at c;exact ⟨Int.ofNat_inj.1 (bne_eq_false_iff_eq.1 hw),by simpa using c⟩);obtain ⟨hlen,l⟩:=hlen;refine sk (sq (sq (rg [] rfl ?_)));refine WP.rowlen 23 rfl (λq=>?_);refine bk (WP.loop (α:=Nat) (λi=>aN [(2,.rp 32 (jk x)),(3,.rp 32 (jk y)),(24,.int x.all.length),(25,.int i)] []) (λi=>i<=x.all.length /\ ∀ j,j<i->x.all.getD j vZ=y.all.getD j vZ) (λi=>x.all.length - i) ?_ ?_);{refine ⟨0,?_,?_⟩;{exact ⟨abq _,λj p=>by omega⟩};refine eX cX trivial};rintro i ⟨hi,f⟩;refine sg rfl (sq ?_);refine cd rfl (λm=>?_) (λm=>?_);{(have g:i<x.all.length:=by simpa using m);refine sk (sq (bk (sq (rg [] rfl ?_))));refine sg rfl (sg rfl ?_);refine sq (wQ [(.s 6 0,1),(.s 7 0,1)] [(2,.rp 32 (jk x)),(3,.rp 32 (jk y)),(6,.rp 45 (uz (x.all.getD i vZ))),(7,.rp 45 (uz (y.all.getD i vZ))),(24,.int x.all.length),(25,.int i)] [] trivial ?_);refine rgs [CG.pure (.bool (decide ((x.all.getD i vZ).picks=(y.all.getD i vZ).picks)))] rfl ?_ ?_;{have r:=UJ (x.all.getD i vZ).picks (y.all.getD i vZ).picks;exact au};refine cd rfl (λd=>?_) (λd=>?_);{(have k:x.all.getD i vZ≠y.all.getD i vZ:=by intro e;simp only [fG]at d;rw [e]at d;simp at d);refine sg rfl (rX ?_);exact fin1 hT (by rfl) (by simp [D6];rintro rfl;exact k rfl)};(have he:x.all.getD i vZ=y.all.getD i vZ:=by obtain ⟨a,o⟩:∃ a,x.all.getD i vZ=a:=⟨_,rfl⟩;obtain ⟨b,hb⟩:∃ b,y.all.getD i vZ=b:=⟨_,rfl⟩;rw [o,hb]at d ⊢;obtain ⟨p1,c1,t⟩:=a;obtain ⟨p2,c2,u⟩:=b;simp only [fG]at d;simp at d;simp [d]);refine sk (rg [] rfl ?_);refine ⟨i+1,?_,?_,?_⟩;{refine ⟨g,λj p=>?_⟩;rcases adv j i with h | h;{exact f j h};(obtain rfl:j=i:=by omega);exact he};{refine eX cX trivial};(try simp only []);first | omega | grind};(have g:i=x.all.length:=by simp at m;omega);subst g;refine xt (sq (rg [] rfl ?_));refine rX ?_;refine fin1 hT (by rfl) ?_;symm;simp only [D6,acf];obtain ⟨v,w⟩:=x;obtain ⟨z,yw⟩:=y;simp only at hlen l f;simp only [KG.mk.injEq];refine ⟨ae0 hlen (λj c n=>?_),l⟩;have:=f j c;simpa [c,n]using this
theorem Ny {z:Bool} {s:cZ}:∀ {k:Nat},nI z s k=true↔z=true \/ ∃ i,i<k/\(s.gos.getD i go0).status=5
 | 0=>by simp [nI]
 | k+1=>by rw [nI,adP,Ny (k:=k),adk];constructor;{rintro ((h | ⟨i,b,a⟩) | h);{exact .inl h};{exact .inr ⟨i,by omega,a⟩};exact .inr ⟨k,by omega,h⟩};rintro (h | ⟨i,b,a⟩);{exact .inl (.inl h)};by_cases e:i=k;{subst e;exact .inr a};exact .inl (.inr ⟨i,by omega,a⟩)
theorem WU {z:Bool} {s:cZ} {i:Nat} (h:i<6) (a:(s.gos.getD i go0).status=5):nI z s 6=true:=Ny.2 (.inr ⟨i,h,a⟩)
structure SR where
 runs:List xg
 stop:Bool
 loose:Bool
def kF (i:Id) (p:ak) (b:dO) (t:SR):AV:=bC 157 [aj p,bY b,.own i t.runs.length 0 t.runs.length none,.bool t.stop,.bool t.loose]
abbrev DX (p:ak) (b:dO) (t:SR):Ob := .cells ⟨157,1,λ_=>kF (.b 1) p b t,0⟩
theorem qg {a:Id->Id} {i j:Id} (c:a i=j) (p:ak) (b:dO) (t:SR):ren a (kF i p b t)=kF j p b t:=bH (λq=>by
 match q with
 | 0=>exact ug a p
 | 1=>exact Ce a b
 | 2=>show AV.own (a i) _ 0 _ none=_;rw [c];rfl
 | 3 | 4 | q+5=>rfl)
theorem AU (i:Id) (p:ak) (b:dO) (t:SR) (x:Bool):(kF i p b t).put [3] (.bool x)=kF i p b { t with stop:=x}:=dh (abZ rfl)
theorem zn (i:Id) (p:ak) (b:dO) (t:SR) (x:Bool):(kF i p b t).put [4] (.bool x)=kF i p b { t with loose:=x}:=dh (abZ rfl)
def tX (b:dO) (t:SR) (picks:List bF) (cut rep:Bool):SR:=if (t.runs.length:Int)>=b.runs then { t with stop:=true}else { t with runs:=t.runs++[⟨picks,cut,rep⟩],loose:=t.loose||cut}
theorem Xq (s:cZ):AC Tryz.prog T aH 104 [encS s] [] (.bool (nI false s 6)) []:=by
 refine aX Tryz.func104 ?_;refine sg rfl (sq (sq ?_));refine WP.ent (st':=aN [(1,.rp 62 (encS s)),(2,.bool false)] []) (em [(.s 1 0,1)] ⟨sF,tt⟩ ⟨rq,cq,tt⟩ trivial) ?_;refine rg [] rfl (bk ?_);refine WP.loop (α:=Nat) (λi=>aN [(1,.rp 62 (encS s)),(6,yT 60 6 bV go0 s.gos),(7,.int i)] []) (λi=>i<=6/\nI false s i=false) (λi=>6 - i) ?_ ?_
 ·refine ⟨0,?_,?_⟩;{exact ⟨abq _,rfl⟩};refine eX cX trivial
 rintro i ⟨hi,e⟩;refine sg rfl (sq ?_);refine cd rfl (λd=>?_) (λd=>?_);{(have a:i<6:=by simp [-List.getD_eq_getElem?_getD]at d;omega);refine sk (sq (bk (sq (rgs [] rfl ?_ ?_))));{simp [-List.getD_eq_getElem?_getD,ay,under];omega};refine sg rfl (cd rfl (λb=>?_) (λb=>?_));{(have c:(s.gos.getD i go0).status=5:=by simp [-List.getD_eq_getElem?_getD]at b;exact b);exact sg rfl (WP.ret (fin1 hT (by rfl) (WU a c).symm))};(have c:¬ (s.gos.getD i go0).status=5:=by simp [-List.getD_eq_getElem?_getD]at b;exact b);refine sk (rg [] rfl ?_);refine ⟨i+1,?_,?_,?_⟩;{exact ⟨a,by rw [nI,e,aeB];simpa using c⟩};{refine eX cX trivial};(try simp only []);first | omega | grind};(have a:i=6:=by simp [-List.getD_eq_getElem?_getD]at d;omega);subst a;refine xt (sq (rg [] rfl ?_));refine rX ?_;rw [e];exact fin1 hT (by rfl) rfl
theorem Xr (p:ak) (b:dO) (hb:rP b) (t:SR) (picks:List bF) (hp:picks.length<=256) (f:0<picks.length) (cut rep:Bool):AC Tryz.prog T aH 105 [.ptr (.b 0) 1 0 [],dB picks,.bool cut,.bool rep] [DX p b t,bD t.runs] (.tup []) [DX p b (tX b t picks cut rep),bD (tX b t picks cut rep).runs]:=by
 refine aX Tryz.func105 ?_;obtain ⟨_,_,d,e⟩:=hb;refine sq (sq (dr [] rfl ?_));refine cd rfl (λc=>?_) (λc=>?_)
 ·(have ht:(t.runs.length:Int)>=b.runs:=by simp [-List.getD_eq_getElem?_getD]at c;omega);refine sg rfl (rX ?_);rw [tX,aa2 ht];exact aJ hT [] (ts:=[]) (l:=[]) trivial trivial ⟨obs rfl (hg:=q0 (ah (AU _ p b t true))),obs rfl,tt⟩ rfl rfl rfl
 (have ht:¬ (t.runs.length:Int)>=b.runs:=by simp [-List.getD_eq_getElem?_getD]at c;omega);refine sk (sq (rg [] rfl ?_));refine sq (rgs [] rfl ?_ ?_);{have a:(T 122).bytes=16:=rfl;simp [ay,under,a];omega};refine sq (wF [(.s 25 0,picks.length)] ⟨⟨_,rfl,abd _⟩,tt⟩ [(0,.ptr (.b 0) 1 0 []),(2,.bool cut),(3,.bool rep),(8,dB picks)] [(.b 0,DX p b t),(.b 1,bD t.runs)] ⟨cq,cq,cq,⟨rfl,_,rfl,iw rfl rfl rfl (λh=>by cases h) (by simp [dW,aS]) (λq g=>⟨(ac8 fC ((uo (i:=0+q) (abq _) (by omega)).trans (by rw [ada,aeQ]))).trans (show fC (aT (picks.getD q dG))=true from rfl),vU.of_eq ((uo (i:=0+q) (abq _) (by omega)).trans (by rw [ada,aeQ]))⟩)⟩,tt⟩ ⟨obs rfl,obs rfl,tt⟩ ?_);refine rgs [] rfl ?_ ?_;{have a:(T 45).bytes=32:=rfl;exact au};refine wE [(0,.ptr (.b 0) 1 0 []),(2,.bool cut)] [(.b 0,DX p b { t with runs:=t.runs++[⟨picks,cut,rep⟩] }),(.b 1,bD (t.runs++[⟨picks,cut,rep⟩]))] ⟨obs rfl (hg:=q0 (ah (Eq.trans (b:=bC 157 [aj p,bY b,.own (.b 1) (t.runs.length+1) 0 (t.runs.length+1) none,.bool t.stop,.bool t.loose]) (bH λq=>by match q with | 0 | 1 | 2 | 3 | 4 | q+5=>rfl) (ac8 (λn=>bC 157 [aj p,bY b,.own (.b 1) n 0 n none,.bool t.stop,.bool t.loose]) (show t.runs.length+1=(t.runs++[(⟨picks,cut,rep⟩:xg)]).length from (dA _ _).symm))))),dL (Ei _) rfl rfl (by rw [dA]) rfl rfl (DI (z:=(T 45).zero) rfl (bH λq=>by match q with | 0 | 1 | 2 | q+3=>rfl) (λq g=>rfl)),tt⟩ (rg [] rfl ?_);rw [tX,xw ht];exact aJ hT [] (ts:=[]) (l:=[]) trivial trivial ⟨obs rfl (hg:=q0 (ah ((zn _ p b _ _).trans (by cases hl:t.loose <;> cases cut <;> rfl)))),obs rfl,tt⟩ rfl rfl rfl
theorem Xu (p:ak) (b:dO) (hb:rP b) (t:SR) (f:Bool) (cut rep:Bool):AC Tryz.prog T aH 105 [.ptr (.b 0) 1 0 [],.row 122 f 0 (λi=>aT (([]:List bF).getD i dG)),.bool cut,.bool rep] [DX p b t,bD t.runs] (.tup []) [DX p b (tX b t [] cut rep),bD (tX b t [] cut rep).runs]:=by
 refine aX Tryz.func105 ?_;obtain ⟨_,_,c,d⟩:=hb;refine sq (sq (dr [] rfl ?_));refine cd rfl (λa=>?_) (λa=>?_)
 ·(have ht:(t.runs.length:Int)>=b.runs:=by simp [-List.getD_eq_getElem?_getD]at a;omega);refine sg rfl (rX ?_);rw [tX,aa2 ht];exact aJ hT [] (ts:=[]) (l:=[]) trivial trivial ⟨obs rfl (hg:=q0 (ah (AU _ p b t true))),obs rfl,tt⟩ rfl rfl rfl
 (have ht:¬ (t.runs.length:Int)>=b.runs:=by simp [-List.getD_eq_getElem?_getD]at a;omega);refine sk (sq (rg [] rfl ?_));refine sq (rgs [CG.nop] rfl ?_ ?_);{simp [ay,under]};refine sq (wT [(0,.ptr (.b 0) 1 0 []),(2,.bool cut),(3,.bool rep),(8,dB ([]:List bF))] [(.b 0,DX p b t),(.b 1,bD t.runs)] ⟨cq,cq,cq,⟨rfl,_,rfl,eP (show 0<(T 122).size by decide)⟩,tt⟩ ⟨obs rfl,obs rfl,tt⟩ ?_);refine rgs [] rfl ?_ ?_;{have e:(T 45).bytes=32:=rfl;exact au};refine wE [(0,.ptr (.b 0) 1 0 []),(2,.bool cut)] [(.b 0,DX p b { t with runs:=t.runs++[⟨[],cut,rep⟩] }),(.b 1,bD (t.runs++[⟨[],cut,rep⟩]))] ⟨obs rfl (hg:=q0 (ah (Eq.trans (b:=bC 157 [aj p,bY b,.own (.b 1) (t.runs.length+1) 0 (t.runs.length+1) none,.bool t.stop,.bool t.loose]) (bH λq=>by match q with | 0 | 1 | 2 | 3 | 4 | q+5=>rfl) (ac8 (λn=>bC 157 [aj p,bY b,.own (.b 1) n 0 n none,.bool t.stop,.bool t.loose]) (show t.runs.length+1=(t.runs++[(⟨[],cut,rep⟩:xg)]).length from (dA _ _).symm))))),dL (Ei _) rfl rfl (by rw [dA]) rfl rfl (DI (z:=(T 45).zero) rfl (bH λq=>by match q with | 0 | 1 | 2 | q+3=>rfl) (λq g=>rfl)),tt⟩ (rg [] rfl ?_);rw [tX,xw ht];exact aJ hT [] (ts:=[]) (l:=[]) trivial trivial ⟨obs rfl (hg:=q0 (ah ((zn _ p b _ _).trans (by cases hl:t.loose <;> cases cut <;> rfl)))),obs rfl,tt⟩ rfl rfl rfl
theorem ZR (p:ak) (b:dO) (hb:rP b) (t:SR) (picks:List bF) (hp:picks.length<=256) (cut rep:Bool):AC Tryz.prog T aH 105 [.ptr (.b 0) 1 0 [],dB picks,.bool cut,.bool rep] [DX p b t,bD t.runs] (.tup []) [DX p b (tX b t picks cut rep),bD (tX b t picks cut rep).runs]:=by
 cases picks with| nil=>exact Xu p b hb t false cut rep| cons a r=>exact Xr p b hb t (a::r) hp (Nat.zero_lt_succ _) cut rep
theorem abT {ids:List Id} {p:ak} {b:dO} {t:SR} {L:List xg} (h:fZ ids (kF (.b 1) p b t)=true):jm ids [DX p b t,bD L]:=⟨λ_ _=>h,λ_ _=>rfl,tt⟩
theorem Ui (l:List bF) (x:bF) (j:Nat) (c:j<l.length+1) {g:Nat->AV} (hg:g 0=aT x):oC ((qC none (some (l.length:Int)) (some (l.length:Int)) l.length).2.1 - (qC none (some (l.length:Int)) (some (l.length:Int)) l.length).1).toNat 1 (λj=>aT (l.getD ((qC none (some (l.length:Int)) (some (l.length:Int)) l.length).1.toNat+j) dG)) g j=aT ((l++[x]).getD j dG):=by
 have a:((qC none (some (l.length:Int)) (some (l.length:Int)) l.length).2.1 - (qC none (some (l.length:Int)) (some (l.length:Int)) l.length).1).toNat=l.length:=by simp [qC]
 have b:(λj=>aT (l.getD ((qC none (some (l.length:Int)) (some (l.length:Int)) l.length).1.toNat+j) dG))=λj=>aT (l.getD j dG):=by funext j;simp [qC]
 rw [a,b];exact RU l x j c hg
theorem Ll (n:Nat):((qC none (some (n:Int)) (some (n:Int)) n).2.1 - (qC none (some (n:Int)) (some (n:Int)) n).1).toNat=n:=by simp [qC]
def Uu:SR:=⟨[],false,false⟩
theorem Vg (p:ak) (b:dO):AC Tryz.prog T aH 55 [aj p,bY b] [] (.ptr (.b 0) 1 0 []) [DX p b Uu,bD Uu.runs]:=by
 refine aX Tryz.func55 ?_;refine sg rfl (sg rfl ?_);refine rX ?_;refine zY hT [] [.s 8 0,.s 900 0] (ts:=[(4,.ptr (.b 0) 1 0 [])]) (l:=[.ptr (.b 0) 1 0 []]) trivial rfl ⟨⟨_,.ptr (.s 8 0) 1 0 [],rfl,ah rfl,rfl,rfl⟩,tt⟩ ⟨.inl ⟨_,.cells ⟨157,1,λ_=>kF (.s 900 0) p b Uu,0⟩,rfl,⟨λ_=>kF (.s 900 0) p b Uu,0,rfl,abd _,abq _,abq _,λi hi=>?_⟩,λ_ _=>rfl,?_⟩,.inr ⟨rfl,45,_,rfl,by decide⟩,tt⟩ rfl rfl
 ·exact ⟨_,rfl,λq a=>by match q with | 0=>exact ah rfl | 1=>exact ah rfl | 2=>exact iK | 3=>exact ah rfl | 4=>exact ah rfl | q+5=>exact absurd a (by simp)⟩
 show DX p b Uu=Ob.cells ⟨157,1,λ_=>ren _ (kF (.s 900 0) p b Uu),0⟩;rw [qg (j := .b 1) rfl]
def YF (L:List xg):Ob := .cells ⟨45,L.length,λi=>uz (L.getD i vZ),L.length⟩
abbrev JC (L:List xg) (w:Bool):AV:=bC 32 [abD L,.bool w]
theorem Xl (p:ak) (b:dO) (t:SR):AC Tryz.prog T aH 58 [.ptr (.b 0) 1 0 []] [DX p b t,bD t.runs] (JC t.runs (!t.stop && !t.loose)) [DX p b t,YF t.runs]:=by
 refine aX Tryz.func58 ?_;refine sg rfl (sq (dr [] rfl ?_));refine rX ?_;refine Fin.ent (xu.mk (P:=Tryz.prog) hT [(.b 1,t.runs.length)] (ts:=[(2,.ptr (.s 2 0) 1 0 [])]) (ms:=[(.b 0,DX p b t),(.b 1,YF t.runs),(.s 2 0,.cells ⟨32,1,λ_=>JC t.runs (!t.stop && !t.loose),0⟩)]) ⟨⟨_,rfl,abd _⟩,tt⟩ ⟨⟨by simp [fZ,iq,aS],_,rfl,ah rfl⟩,tt⟩ ⟨obs rfl,⟨λ_ _=>rfl,.inl ⟨_,rfl,λi=>uz (t.runs.getD i vZ),t.runs.length,rfl,abq _,abd _,abd _,λi hi=>ah rfl⟩⟩,obs rfl (hg:=q0 ⟨_,rfl,λi hi=>?_⟩),tt⟩ rfl) ?_
 ·match i with| 0=>exact iw rfl rfl rfl (λh=>by cases h) (by simp [dW,aS]) (λq a=>by rw [ada];exact ⟨rfl,vU.refl _⟩)| 1=>exact ah (by cases t.stop <;> cases t.loose <;> rfl)| i+2=>exact absurd hi (by simp)
 exact aJ hT [(.s 2 0,1)] (ts:=[(2,.rp 32 (JC t.runs (!t.stop && !t.loose)))]) (l:=[JC t.runs (!t.stop && !t.loose)]) ⟨⟨_,rfl,abd _⟩,tt⟩ ⟨⟨rfl,_,rfl,bM rfl rfl (by decide) rfl rfl rfl⟩,tt⟩ ⟨obs rfl,⟨λ_ _=>rfl,.inl ⟨_,rfl,_,_,rfl,abd _,abq _,abd _,λi hi=>ah rfl⟩⟩,tt⟩ rfl rfl rfl
end Go.Ab
