/- Part 22 of a proof of a statement about the given program: an abstract machine over the model, proved sound, and contracts of the functions that the statement reaches; the last part proves the statement, for every input, with no condition. -/
import Derived.Test.YtcfelhfcjdofoaaGreatDoorX20
import Derived.Test.YtcfelhfcjdofoaaGreatDoorX19
import Derived.Test.YtcfelhfcjdofoaaGreatDoorX15
set_option autoImplicit false
set_option linter.unusedSimpArgs false
set_option linter.unusedVariables false
set_option maxHeartbeats 4000000
set_option maxRecDepth 20000
namespace Go.Ab
open Go.Proofs
theorem SK {l:List Int} {k:Nat} (h:k<4):(iY l).getD k 0=l.getD (if k=3 then 3 else k+1) 0:=by
 match k,h with
 | 0,_ | 1,_ | 2,_ | 3,_=>rfl
theorem OW.chQ {p:ay} {G:PGo} {m:PM} (h:OW p G m) {c:Int} (hc:bQ c p.chans.length):JL p (chI m.s c) c.toNat:=by
 have hc4:=(jg h.x.right).chans;unfold bQ at hc;exact Wh ((h.x.chs c.toNat (by omega)).1 (by omega))
theorem OW.recv {p:ay} {G:PGo} {m:PM} (h:OW p G m) {c:Int} (hc:bQ c p.chans.length):OW p G (dM m c).1:=by
 have hq:=h.chQ hc;obtain ⟨⟨q1,q2,q3⟩,q4,q5,q6,q7,q8⟩:=hq;have hb:(chI m.s c).buf.length=4:=jh h.x.ok _
 have hcaps:0≤BO p c.toNat∧BO p c.toNat≤4:=by
  unfold bQ at hc;refine (jg h.x.right).caps _ ?_;rw [BO,List.getD_eq_getElem?_getD,List.getElem?_eq_getElem (show c.toNat<p.chans.length by omega)];exact List.getElem_mem _
 unfold dM;split
 ·rename_i hl;refine (h.val _).setC hc (by show (List.set _ _ _).length=4;rw [List.length_set];rfl) ⟨⟨⟨by show 0≤(chI m.s c).len - 1;omega,by show (chI m.s c).len - 1≤_;omega⟩,q2,q3⟩,fun k hk hle=>?_,q5,q6,q7,q8⟩ id id rfl;have hle':(chI m.s c).len - 1≤k:=hle
  show ((iY (chI m.s c).buf).set ((chI m.s c).len - 1).toNat 0).getD k 0=0;rw [iQ];split
  ·rfl
  ·rename_i hn;have hk2:(chI m.s c).len≤k:=by
    rcases Nat.lt_or_ge k ((chI m.s c).len - 1).toNat with h1 | h1
    ·omega
    ·rcases Nat.lt_or_ge ((chI m.s c).len - 1).toNat k with h2 | h2
     ·omega
     ·exact absurd ⟨by omega,show k<4 from hk⟩ hn
   rw [SK hk];split
   ·exact q4 3 (by omega) (by omega)
   ·exact q4 (k+1) (by omega) (by omega)
 ·split
  ·rename_i ho;refine (h.val _).setC (y:={ chI m.s c with offer:=2,val:=0}) hc hb ⟨⟨q1,by show 0≤(2:Int)∧(2:Int)≤3;decide,fun _=>q3 (by omega)⟩,q4,fun e=>by exact absurd e (by show ¬ (2:Int)=0;decide),fun e=>by exact absurd e (by show ¬ (2:Int)=1;decide),fun _=>rfl,fun e=>by exact absurd e (by show ¬ (2:Int)=3;decide)⟩ (fun _=>by show (chI m.s c).offer≠0;omega) (fun _=>by show (2:Int)≠0;decide) rfl
  ·exact h.val _
theorem OW.shut {p:ay} {G:PGo} {m:PM} (h:OW p G m) {c:Int} (hc:bQ c p.chans.length) (hcl:¬ (chI m.s c).closed=true):OW p G (nX m c):=by
 have hq:=h.chQ hc;obtain ⟨⟨q1,q2,q3⟩,q4,q5,q6,q7,q8⟩:=hq;have hb:(chI m.s c).buf.length=4:=jh h.x.ok _
 rw [nX,if_neg hcl];split
 ·rename_i ho;exact h.setC (y:={ chI m.s c with closed:=true,offer:=3,val:=0}) hc hb ⟨⟨q1,by show 0≤(3:Int)∧(3:Int)≤3;decide,fun _=>q3 (by omega)⟩,q4,fun e=>by exact absurd e (by show ¬ (3:Int)=0;decide),fun e=>by exact absurd e (by show ¬ (3:Int)=1;decide),fun _=>rfl,fun _=>rfl⟩ (fun _=>by omega) (fun _=>by show (3:Int)≠0;decide) rfl
 ·rename_i ho;exact h.setC (y:={ chI m.s c with closed:=true}) hc hb ⟨⟨q1,q2,q3⟩,q4,q5,fun e=>absurd e ho,q7,fun _=>rfl⟩ id id rfl
structure VR (p:ay) (G:PGo) (m:PM) (D:RD):Prop where
 fail:D.why≠0 → ∃ m':PM,m'.g=m.g∧D.s=m'.s∧OW p G m'∧qN D.why (insOf p G).op=true
 wait:D.why=0→D.to<0→dw p D.s
 run:D.why=0→0≤D.to → ∃ m':PM,m'.g=m.g∧D.s=m'.s∧OW p G m'∧bQ D.to (dN p G).code.length
theorem vO {p:ay} {G:PGo} {m m':PM} {to:Int} (h:OW p G m') (hg:m'.g=m.g) (ht:bQ to (dN p G).code.length):VR p G m (jP m' to) :=
 ⟨fun e=>absurd rfl e,fun _ e=>by unfold bQ at ht;exact absurd ht.1 (by show ¬ 0≤(jP m' to).to;omega),fun _ _=>⟨m',hg,rfl,h,ht⟩⟩
theorem wO {p:ay} {G:PGo} {m m':PM} {D:RD} (h:OW p G m') (hg:m'.g=m.g) (hs:D.s=m'.s) (hw:D.why≠0) (hm:qN D.why (insOf p G).op=true):VR p G m D :=
 ⟨fun _=>⟨m',hg,hs,h,hm⟩,fun e=>absurd e hw,fun e=>absurd e hw⟩
theorem YP (m:PM) (c:Int):(dM m c).1.g=m.g:=by
 unfold dM;split
 ·rfl
 ·split <;> rfl
theorem Om {p:ay} {G:PGo} {m:PM} (h:OW p G m) {to c r ok:Int} (hc:bQ c p.chans.length) (hr:r = -1∨lq (dN p G) r) (hk:ok = -1∨lq (dN p G) ok) (ht:bQ to (dN p G).code.length):VR p G m (rG m to c r ok) :=
 vO (((h.recv hc).yI hr).yI hk) (by rw [yj,yj,YP]) ht
theorem Ol {p:ay} {G:PGo} {m:PM} (h:OW p G m) (hG:uO p G) {to c v:Int} (hc:bQ c p.chans.length) (hs:jl p m.s c=true) (hop:(insOf p G).op=58∧(insOf p G).a=c∨(insOf p G).op=61∧p.chans.getD c.toNat 0≠0) (ht:bQ to (dN p G).code.length):VR p G m (mQ p m to c v):=by
 have hq:=h.chQ hc;obtain ⟨⟨q1,q2,q3⟩,q4,q5,q6,q7,q8⟩:=hq;have hb:(chI m.s c).buf.length=4:=jh h.x.ok _
 unfold mQ;split
 ·exact wO h rfl rfl (by show (4:Int)≠0;decide) (by
   rcases hop with e | e
   ·show qN 4 _=true;rw [e.1];rfl
   ·show qN 4 _=true;rw [e.1];rfl)
 rename_i hcl;have hcl':(chI m.s c).closed=false:=by simpa using hcl
 unfold jl at hs;rw [hcl',Bool.false_or,Bool.or_eq_true,Bool.and_eq_true,Bool.and_eq_true,decide_eq_true_eq,decide_eq_true_eq,beq_iff_eq,beq_iff_eq]at hs;by_cases hp:0<p.chans.getD c.toNat 0
 ·have hlen:(chI m.s c).len<p.chans.getD c.toNat 0:=by
   rcases hs with e | e
   ·exact e.2
   ·omega
  have e:(⟨(iK p m c v).s,v,0,if 0<p.chans.getD c.toNat 0 then to else -1⟩:RD)=jP (iK p m c v) to:=by rw [if_pos hp,iK,if_neg hcl,if_pos hp]
  rw [e];refine vO ?_ (by rw [iK,if_neg hcl,if_pos hp]) ht;rw [iK,if_neg hcl,if_pos hp];refine (h.val v).setC (y:={ mY (chI m.s c) (chI m.s c).len v with len:=(chI m.s c).len+1}) hc (by show (List.set _ _ _).length=4;rw [List.length_set];exact hb) ⟨⟨⟨by show 0≤(chI m.s c).len+1;omega,by show (chI m.s c).len+1≤p.chans.getD c.toNat 0;omega⟩,q2,q3⟩,fun k hk hle=>?_,q5,q6,q7,q8⟩ id id rfl;have hle':(chI m.s c).len+1≤k:=hle
  show ((chI m.s c).buf.set (chI m.s c).len.toNat v).getD k 0=0;rw [iQ,if_neg (by omega)];exact q4 k hk (by omega)
 ·have hz:p.chans.getD c.toNat 0=0∧(chI m.s c).offer=0:=by
   rcases hs with e | e
   ·omega
   ·exact e
  have h58:(insOf p G).op=58∧(insOf p G).a=c:=by
   rcases hop with e | e
   ·exact e
   ·exact absurd hz.1 e.2
  refine ⟨fun e=>absurd rfl e,fun _ _=>?_,fun _ e=>absurd e (by show ¬ (0:Int)≤(if 0<p.chans.getD c.toNat 0 then to else -1);rw [if_neg hp];decide)⟩;show dw p (iK p m c v).s
  rw [iK,if_neg hcl,if_neg hp];have ef:dN p { aQ m with status:=2}=dN p G:=by
   show p.funcs.getD (aQ m).func.toNat mD=p.funcs.getD G.func.toNat mD;rw [h.fn]
  have ei:insOf p { aQ m with status:=2}=insOf p G:=by
   show (dN p { aQ m with status:=2}).code.getD (aQ m).pc.toNat qR=_;rw [ef,h.pc]
  have eo:aQ (bM { m with val:=v} c { chI m.s c with offer:=1,frm:=m.g,val:=v})=aQ m:=rfl;refine VX.offer (s:=m.s) (g:=m.g) (c:=c) h.x (x:={ aQ m with status:=2}) (y:={ chI m.s c with offer:=1,frm:=m.g,val:=v}) (fJ h.x.ok _) ?_ ?_ ?_ hc hb ⟨⟨q1,by show 0≤(1:Int)∧(1:Int)≤3;decide,fun _=>hz.1⟩,q4,fun e=>by exact absurd e (by show ¬ (1:Int)=0;decide),fun _=>hcl',fun e=>by exact absurd e (by show ¬ ((1:Int)=2∨(1:Int)=3);decide),fun e=>by exact absurd e (by show ¬ (1:Int)=3;decide)⟩ hz.2 rfl (by show (1:Int)≠0;decide) rfl
  ·exact qH (.inr rfl) (by show bQ (aQ m).func _;rw [h.fn];exact hG.2.1) (by rw [ef];show bQ (aQ m).pc _;rw [h.pc];exact hG.2.2.1) h.why (by rw [ef];exact h.z)
  ·rw [ei];exact h58.1
  ·rw [ei];exact h58.2
theorem YT (g:PGo) (c:Int) (n k:Nat):(EY g c n).getD k 0=if k<8∧k<n then bZ g (c+k)else 0:=by
 rw [List.getD_eq_getElem?_getD];by_cases h:k<8
 ·rw [List.getElem?_eq_getElem (by simp [EY,h])];simp only [EY,List.getElem_map,List.getElem_range,Option.getD_some];by_cases h2:k<n
  ·rw [if_pos h2,if_pos ⟨h,h2⟩]
  ·rw [if_neg h2,if_neg (fun e=>h2 e.2)]
 ·rw [List.getElem?_eq_none (by simp [EY];omega),if_neg (fun e=>h e.1)];rfl
theorem RY {p:ay} {G:PGo} {m:PM} {x:jR} (h:OW p G m) (hx:insOf p G=x) (hi:MK p (dN p G) x) (e62:x.op=62) {to:Int} (ht:bQ to (dN p G).code.length):VR p G m (oM p m to x):=by
 obtain ⟨ha,hb,_⟩:=hi.spawn e62;have hct:=h.x.cnt;have hpos:=h.x.pos
 unfold oM;split
 ·exact wO h rfl rfl (by show (8:Int)≠0;decide) (by show qN 8 _=true;rw [hx,e62];rfl)
 ·rename_i hc;rw [iE,if_neg hc];have hF:Dw p (p.funcs.getD x.b.toNat mD):=(jg h.x.right).fn _ (by
   unfold bQ at hb;rw [List.getD_eq_getElem?_getD,List.getElem?_eq_getElem (show x.b.toNat<p.funcs.length by omega)];exact List.getElem_mem _)
  have hz:RP (p.funcs.getD x.b.toNat mD) (EY (aQ m) x.c (wZ p x).toNat):=fun k h1 h2=>by
   rw [YT,if_neg];have:=hF.pars
   have e:wZ p x=(p.funcs.getD x.b.toNat mD).params:=rfl;omega
  have hfc:uO p (pW (aQ m) x (wZ p x).toNat):=qH (.inl rfl) hb (by show bQ 0 (p.funcs.getD x.b.toNat mD).code.length;have:=hF.code;unfold bQ;omega) rfl hz;have hne:(goI (iW p m x).s m.g)=aQ m:=by
   show (m.s.gos.set m.s.count.toNat _).getD m.g.toNat go0=m.s.gos.getD m.g.toNat go0;rw [iQ,if_neg (by omega)]
  have hs:OW p G (iW p m x):=by
   refine ⟨h.x.spawn (by omega) (by show (EY _ _ _).length=8;simp [EY]) hfc (by show ¬ (1:Int)=2;decide),?_,?_,?_,?_,?_⟩
   ·rw [show aQ (iW p m x)=aQ m from hne];exact h.st
   ·rw [show aQ (iW p m x)=aQ m from hne];exact h.fn
   ·rw [show aQ (iW p m x)=aQ m from hne];exact h.pc
   ·rw [show aQ (iW p m x)=aQ m from hne];exact h.why
   ·rw [show aQ (iW p m x)=aQ m from hne];exact h.z
  exact vO (hs.yI ha) (by rw [yj];rfl) ht
theorem Yt {p:ay} {G:PGo} {m:PM} {x:jR} (h:OW p G m) (hx:insOf p G=x) (hi:MK p (dN p G) x) {to:Int} (ht:bQ to (dN p G).code.length):VR p G m (zJ m to x):=by
 have hct:=h.x.cnt;have hpos:=h.x.pos
 have hg1:0≤m.g+1∧m.g+1≤m.s.count:=by omega
 unfold zJ;split
 ·rename_i e;exact wO h rfl rfl (by show (6:Int)≠0;decide) (by show qN 6 _=true;rw [hx,e.1];rfl)
 rename_i hn;have key:OW p G (aX m x).1∧(aX m x).1.g=m.g:=by
  unfold aX;split
  ·rename_i e;have:=hi.load e
   exact ⟨(h.val _).yI (.inr this.1),yj _ _ _⟩
  split
  ·rename_i e;exact ⟨(h.val _).setV (hi.store (.inl e)).2,rfl⟩
  split
  ·rename_i e;have:=hi.bump e
   exact ⟨((h.val _).yI this.1).setV this.2.1,yj _ _ _⟩
  split
  ·rename_i e;have:=hi.cas e
   have hc:OW p G (mF m x)∧(mF m x).g=m.g:=by
    unfold mF;split
    ·exact ⟨(h.val _).setV this.2.1,rfl⟩
    ·exact ⟨h.val _,rfl⟩
   exact ⟨hc.1.yI (.inr this.1),(yj _ _ _).trans hc.2⟩
  split
  ·exact ⟨h.val _,rfl⟩
  split
  ·rename_i e;exact ⟨h.setO (hi.lock (.inl e)) hg1,rfl⟩
  split
  ·rename_i e;have hl:¬ qO m.s x.a≠m.g+1:=fun hh=>hn ⟨e,hh⟩
   rw [if_neg hl];exact ⟨h.setO (hi.lock (.inr e)) (by omega),rfl⟩
  split
  ·rename_i e;have:=hi.try_ e
   have hc:OW p G (mg m x)∧(mg m x).g=m.g:=by
    unfold mg;split
    ·exact ⟨(h.val _).setO this.2 hg1,rfl⟩
    ·exact ⟨h.val _,rfl⟩
   exact ⟨hc.1.yI (.inr this.1),(yj _ _ _).trans hc.2⟩
  ·exact ⟨h,rfl⟩
 exact vO key.1 key.2 ht
theorem Yu {p:ay} {s:PSt} {g n alt:Int} (h:dR p s g) (ha:alt∈kU p s g):VR p (goI s g) (jE s g n) (nY p (jE s g n) (atI p s g) (dK p s g) alt):=by
 have hat:=h.at
 have hpos:=h.pos;have hlt:=h.lt;have hct:=h.valid.2.1
 have hG:=h.fit;have hgl:g.toNat<s.gos.length:=by rw [h.ok.gos];omega
 have hcs:=zk ha;have hrd:(atI p s g).op≠61→gY p s g=true:=fun e=>(wK ha e).1
 obtain ⟨m,hm⟩:∃ m,jE s g n=m:=⟨_,rfl⟩;have hms:m.s=s:=by rw [← hm];rfl
 have hmg:m.g=g:=by rw [← hm];rfl
 rw [hm];by_cases hw:(goI s g).status=2
 ·obtain ⟨h58,k,hk,hak,hof,hfr⟩:=h.wait hw;have e66:(atI p s g).op=66:=by rw [atI,if_pos hw]
  have ea:(atI p s g).a=(insOf p (goI s g)).a:=by rw [atI,if_pos hw]
  have hc:=hat.send (.inr (.inr e66));rw [nY,if_pos e66,uZ];have hnx:bQ ((aQ m).pc+1) (dN p (goI s g)).code.length:=by
   have e:(aQ m).pc=(goI s g).pc:=by show (goI m.s m.g).pc=_;rw [hms,hmg]
   rw [e];exact Jr h.fn hG.2.2.1 (by rw [show ((dN p (goI s g)).code.getD (goI s g).pc.toNat qR).op=58 from h58];rfl)
  have hq:=Wh ((h.valid.2.2.2.2.2.1 (atI p s g).a.toNat (by have:=h.prog.chans;unfold bQ at hc;omega)).1 (by unfold bQ at hc;omega));obtain ⟨⟨q1,q2,q3⟩,q4,q5,q6,q7,q8⟩:=hq;have hx:=VX.taken h hw ea.symm (y:={ chI s (atI p s g).a with offer:=0,frm:=0,val:=0}) hc (jh h.ok _) ⟨⟨q1,by show 0≤(0:Int)∧(0:Int)≤3;decide,fun e=>absurd rfl e⟩,q4,fun _=>⟨rfl,rfl⟩,fun e=>by exact absurd e (by show ¬ (0:Int)=1;decide),fun _=>rfl,fun e=>by exact absurd e (by show ¬ (0:Int)=3;decide)⟩ rfl
  have hO:OW p (goI s g) (jK m (atI p s g).a):=by
   have e0:(jK m (atI p s g).a).s={ { s with chans:=s.chans.set (atI p s g).a.toNat { chI s (atI p s g).a with offer:=0,frm:=0,val:=0} }with gos:=s.gos.set g.toNat { goI s g with status:=1} }:=by
    rw [← hm];rfl
   have e1:aQ (jK m (atI p s g).a)={ goI s g with status:=1}:=by
    show goI (jK m (atI p s g).a).s (jK m (atI p s g).a).g=_;rw [e0,show (jK m (atI p s g).a).g=g from hmg];exact pV (s:={ s with chans:=s.chans.set (atI p s g).a.toNat { chI s (atI p s g).a with offer:=0,frm:=0,val:=0} }) hgl
   refine ⟨?_,?_,?_,?_,?_,?_⟩
   ·rw [e0,show (jK m (atI p s g).a).g=g from hmg];exact hx.eP (x:={ goI s g with status:=1}) (fJ h.ok _)
   ·rw [e1]
   ·rw [e1]
   ·rw [e1]
   ·rw [e1];exact hG.2.2.2.2.2.1 (by omega)
   ·rw [e1];exact Es hG
  by_cases h3:(chI m.s (atI p s g).a).offer=3
  ·rw [if_pos h3];exact wO hO (by rfl) rfl (by show (4:Int)≠0;decide) (by show qN 4 _=true;rw [h58];rfl)
  ·rw [if_neg h3];exact vO hO rfl hnx
 have hst:(goI s g).status=1:=by
  have:=h.live;unfold uy at this;simp only [Bool.or_eq_true,beq_iff_eq]at this;omega
 have hxi:atI p s g=insOf p (goI s g):=by rw [atI,if_neg hw]
 have hi:=h.ins;have hO:OW p (goI s g) m:=by
  refine ⟨?_,?_,?_,?_,?_,?_⟩
  ·rw [hms,hmg];exact VX.of h.ok h.valid ⟨hpos.1,hlt⟩ (by omega)
  ·show (goI m.s m.g).status=1;rw [hms,hmg];exact hst
  ·show (goI m.s m.g).func=_;rw [hms,hmg]
  ·show (goI m.s m.g).pc=_;rw [hms,hmg]
  ·show (goI m.s m.g).why=0;rw [hms,hmg];exact hG.2.2.2.2.2.1 (by omega)
  ·show RP _ (goI m.s m.g).regs;rw [hms,hmg];exact Es hG
 have eown:aQ m=goI s g:=by show goI m.s m.g=_;rw [hms,hmg]
 rw [hxi]at hcs hrd ⊢;obtain ⟨x,hx⟩:∃ x,insOf p (goI s g)=x:=⟨_,rfl⟩;obtain ⟨q,hq⟩:∃ q,dK p s g=q:=⟨_,rfl⟩;have hge:50≤x.op:=by
  rw [← hx];rcases hi.op with h1 | h1
  ·by_cases e61:(insOf p (goI s g)).op=61
   ·omega
   ·have h2:=hrd e61;unfold su at h1;unfold gY at h2;rw [hxi]at h2;simp only [Bool.or_eq_true,Bool.and_eq_true,decide_eq_true_eq]at h1;rw [if_neg (by omega),if_neg (by omega),if_neg (by omega),if_neg (by omega),if_neg (by omega),if_neg (by omega)]at h2;unfold EX at h2;simp only [Bool.and_eq_true,decide_eq_true_eq]at h2;omega
  ·unfold EX at h1;simp only [Bool.and_eq_true,decide_eq_true_eq]at h1;omega
 rw [hx]at hcs hi ⊢;rw [hq]at hcs ⊢;have hnx:x.op≠61→bQ ((aQ m).pc+1) (dN p (goI s g)).code.length:=fun e61=>by
  rw [eown];refine Jr h.fn hG.2.2.1 ?_;rw [show (dN p (goI s g)).code.getD (goI s g).pc.toNat qR=x from hx];simp only [BH,Bool.or_eq_false_iff,beq_eq_false_iff_ne];exact ⟨⟨by omega,by omega⟩,e61⟩
 have hv66:x.op≠66:=fun e=>by
  have:=hi.op;rw [e]at this;revert this;decide
 have hsnd:x.op=58→jl p m.s x.a=true:=fun e=>by
  have h2:=hrd (by rw [hx];omega);unfold gY at h2;rw [hxi,hx]at h2;rw [if_neg (by omega),if_neg (by omega),if_pos e]at h2;rw [hms];exact h2
 unfold nY;rw [if_neg hv66];by_cases e58:x.op=58
 ·rw [if_pos e58];exact Ol hO hG (hi.send e58).1 (hsnd e58) (.inl ⟨by rw [hx];exact e58,by rw [hx]⟩) (hnx (by omega))
 rw [if_neg e58];by_cases e59:x.op=59
 ·rw [if_pos e59];obtain ⟨h1,h2,h3⟩:=hi.recv e59;exact Om hO h2 h1 h3 (hnx (by omega))
 rw [if_neg e59];by_cases e60:x.op=60
 ·rw [if_pos e60];unfold uG;by_cases hc:(chI m.s x.a).closed=true
  ·rw [if_pos hc];exact wO hO rfl rfl (by show (5:Int)≠0;decide) (by show qN 5 _=true;rw [hx,e60];rfl)
  ·rw [if_neg hc];refine vO (hO.shut (hi.close e60) hc) ?_ (hnx (by omega));rw [nX,if_neg hc];split <;> rfl
 rw [if_neg e60];by_cases e62:x.op=62
 ·rw [if_pos e62];exact RY hO hx hi e62 (hnx (by omega))
 rw [if_neg e62];by_cases e63:x.op=63
 ·rw [if_pos e63];unfold x9;split
  ·exact vO (hO.val (bZ (aQ m) x.a)) rfl (hnx (by omega))
  ·exact wO hO rfl rfl (by show (7:Int)≠0;decide) (by show qN 7 _=true;rw [hx,e63];rfl)
 rw [if_neg e63];by_cases e65:x.op=65
 ·rw [if_pos e65];exact vO (hO.val (bZ (aQ m) x.a)) rfl (hnx (by omega))
 rw [if_neg e65];by_cases e61:x.op=61
 ·rw [if_pos e61];obtain ⟨_,hse⟩:=h.sel (by rw [hxi,hx];exact e61);rw [hq]at hse;obtain ⟨hal,hcb⟩:=hcs e61;unfold DX;by_cases hae:alt=q.cases.length
  ·rw [if_pos hae];have hels:q.els ≠ -1:=by rw [← hq];exact MH ha (by rw [hxi,hx];exact e61) (by rw [hq];exact hae)
   exact vO hO rfl (hse.els hels)
  ·rw [if_neg hae];have hcp:=hse.case (aC q alt.toNat) (by unfold aC;rw [List.getD_eq_getElem?_getD,List.getElem?_eq_getElem (show alt.toNat<q.cases.length by omega)];exact List.getElem_mem _)
   have hb:=hcb (by omega);by_cases hs:(aC q alt.toNat).send=true
   ·rw [if_pos hs];unfold xM at hb;rw [hs]at hb;exact Ol hO hG hcp.chan (by rw [hms];simpa using hb) (.inr ⟨by rw [hx];exact e61,hcp.cap hs⟩) hcp.to
   ·rw [if_neg hs];refine Om hO hcp.chan ?_ (.inl rfl) hcp.to;by_cases hr:(aC q alt.toNat).reg = -1
    ·exact .inl hr
    ·exact .inr (hcp.reg (.inr hr))
 rw [if_neg e61];exact Yt hO hx hi (hnx e61)
theorem Kt {p:ay} (hp:qV p) {F:iL}:∀ (n:Nat) (x:PGo),dN p x=F→uO p x→x.status≠2→Jm x→uO p (qg F n x)∧(qg F n x).status≠2∧Jm (qg F n x):=by
 intro n;have hsx:∀ x:PGo,dN p x=F→Kz F x=true→x.status=1∧su (insOf p x).op=true:=fun x e hr=>by
  unfold Kz at hr;rw [Bool.and_eq_true,beq_iff_eq]at hr;refine ⟨hr.1,?_⟩;unfold insOf;rw [e];exact hr.2
 induction n with
 | zero =>
  intro x e hf h2 ho;rw [qg];split
  ·rename_i hr;obtain ⟨h1,hl⟩:=hsx x e hr;exact ⟨UG h1 hf hl,by show ¬ (5:Int)=2;decide,ho⟩
  ·exact ⟨hf,h2,ho⟩
 | succ n ih =>
  intro x e hf h2 ho;rw [qg];split
  ·rename_i hr;obtain ⟨h1,hl⟩:=hsx x e hr;have ei:atF F x=insOf p x:=by unfold insOf;rw [e]
   rw [ei];have hFu:Dw p (dN p x):=hp.fn _ (by
    have:=hf.2.1;unfold bQ at this;rw [dN,List.getD_eq_getElem?_getD,List.getElem?_eq_getElem (show x.func.toNat<p.funcs.length by omega)];exact List.getElem_mem _)
   have hok:=Ap hFu (g:=x) ⟨ho,hf.2.2.1⟩ hl;refine ih _ ?_ (Xz hp hf h1 ho hl) ?_ hok.1.1
   ·rw [← e];show p.funcs.getD (oP x (insOf p x)).func.toNat mD=p.funcs.getD x.func.toNat mD
    rw [show (oP x (insOf p x)).func=x.func from hok.2]
   ·unfold oP
    repeat' split
    all_goals first | exact h2 | (show ¬ (4:Int)=2;decide) | (show ¬ (3:Int)=2;decide)
  ·exact ⟨hf,h2,ho⟩
theorem xX {p:ay} {s:PSt} {g n:Int} (ho:OkS s) (hv:dw p s) (hg:0≤g∧g<s.count) (hn:0≤n∧n≤4096):dw p (bD p s g n).1:=by
 have hct:=hv.2.1;have hp:=jg hv.1
 have hf:uO p (goI s g):=(hv.2.2.2.2.1 g.toNat (by omega)).1 (by omega);rw [bD,if_neg (by rw [hv.1];decide),if_neg (fun e=>e hv),if_neg (fun e=>e ⟨⟨hg.1,by omega⟩,hn⟩),if_neg (by omega)];split
 ·rename_i hs;have hf1:uO p { goI s g with status:=1}:=qH (g:={ goI s g with status:=1}) (.inl rfl) hf.2.1 hf.2.2.1 (hf.2.2.2.2.2.1 (by omega)) (show RP (dN p (goI s g)) (goI s g).regs from Es hf)
  obtain ⟨k1,k2,k3⟩:=Kt hp n.toNat { goI s g with status:=1} (show dN p { goI s g with status:=1}=dN p (goI s g)from rfl) hf1 (by show ¬ (1:Int)=2;decide) (fJ ho _);have hx:=(VX.of ho hv hg (by omega)).eP k3
  refine hx.fin ?_ ?_
  ·rw [pV (by rw [ho.gos];omega)];exact k1
  ·rw [pV (by rw [ho.gos];omega)];exact k2
 ·exact hv
theorem UZ {p:ay} {s:PSt} {x:bI} {n:Int} (h:dR p s x.go) (hx:x.alt∈kU p s x.go) (hn:0≤n∧n≤4096):dw p (doF p s x n).1:=by
 have hdo:doF p s x n=((yC p (sU p s x n).1 (sU p s x n).2.1 (sU p s x n).2.2).s,lF p s x (sU p s x n).1.val,0):=by
  rw [doF,if_neg (by rw [vM,if_neg (by rw [h.valid.1];decide),if_neg (fun hh=>hh h.valid)];decide),if_neg (fun hh=>hh hn),if_neg (fun hh=>hh ⟨h.pos,h.live,hx⟩)]
 rw [hdo];show dw p (yC p (sU p s x n).1 (sU p s x n).2.1 (sU p s x n).2.2).s
 have hmd:MD (jE s x.go n) (Oo p s x n) (sU p s x n):=zy h hx;have hvr:VR p (goI s x.go) (jE s x.go n) (Oo p s x n):=Yu h hx
 have hG:=h.fit;obtain ⟨D,hD⟩:∃ D,Oo p s x n=D:=⟨_,rfl⟩;obtain ⟨r,hr⟩:∃ r,sU p s x n=r:=⟨_,rfl⟩;rw [hD,hr]at hmd;rw [hD]at hvr;rw [hr];by_cases hw:D.why=0
 ·rcases Int.lt_or_le D.to 0 with ht | ht
  ·obtain ⟨h1,h2,_⟩:=hmd.wait hw ht;rw [yC,if_pos h1,h2];exact hvr.wait hw ht
  ·obtain ⟨h1,h2,h3⟩:=hmd.run hw ht;obtain ⟨m',hg',hs',hO,hb⟩:=hvr.run hw ht;have hmg:m'.g=x.go:=hg'
   rw [h1,yC,if_neg (show ¬ (false=true) by decide),h2];obtain ⟨s1,hs1⟩:∃ s1,({ D.s with gos:=D.s.gos.set x.go.toNat { goI D.s x.go with pc:=D.to} }:PSt)=s1:=⟨_,rfl⟩;have hct:=hO.x.cnt;have hps:=hO.x.pos;have hxo:=hO.x.ok
   rw [← hs',hmg]at hps;rw [← hs']at hxo hct;have hog:aQ m'=goI D.s x.go:=by show goI m'.s m'.g=_;rw [← hs',hmg]
   have hfit:=hO.fit hG.2.1 hb;rw [hog]at hfit;have hst:=hO.st
   rw [hog]at hst;have hok1:OkS s1:=by rw [← hs1];exact hxo.eP (x:={ goI D.s x.go with pc:=D.to}) (fJ hxo _)
   have hv1:dw p s1:=by
    have hX:=hO.x;rw [← hs',hmg]at hX;have hX1:=hX.eP (x:={ goI D.s x.go with pc:=D.to}) (fJ hxo _)
    rw [hs1]at hX1;have e1:goI s1 x.go={ goI D.s x.go with pc:=D.to}:=by rw [← hs1];exact pV (by rw [hxo.gos];omega)
    refine hX1.fin ?_ ?_
    ·rw [e1];exact hfit
    ·rw [e1];show ¬ (goI D.s x.go).status=2
     omega
   have e0:eP (⟨D.s,(jE s x.go n).g,(jE s x.go n).fuel,D.val,false⟩:PM) { aQ (⟨D.s,(jE s x.go n).g,(jE s x.go n).fuel,D.val,false⟩:PM)with pc:=D.to}=⟨s1,x.go,n,D.val,false⟩:=by
    rw [← hs1];rfl
   rw [e0];have hc1:s1.count=D.s.count:=by rw [← hs1]
   have hv2:dw p (bD p s1 x.go n).1:=xX hok1 hv1 (by rw [hc1];exact hps) hn;have hok2:OkS (bD p s1 x.go n).1:=pF hok1 x.go n
   rcases h3 with ⟨k1,k2⟩ | ⟨k1,k2⟩
   ·rw [k1,if_neg (by decide)];exact hv2
   ·have hsc:(jE s x.go n).s.count=s.count:=rfl;have hc0:=h.valid.2.1
    rw [k1,hsc,if_pos (by omega)];show dw p (bD p (bD p s1 x.go n).1 s.count n).1
    refine xX hok2 hv2 ?_ hn;rcases xY p s1 x.go n with e | e
    ·rw [e,hc1,k2,hsc];omega
    ·exfalso;have:=hv2.2.1
     rw [e]at this;exact absurd this.1 (by decide)
 ·obtain ⟨h1,_,h2⟩:=hmd.fail hw;obtain ⟨m',hg',hs',hO,hm⟩:=hvr.fail hw;rw [yC,if_pos h1,h2];have e:(jZ m' D.why).s={ D.s with gos:=D.s.gos.set x.go.toNat (ou (goI D.s x.go) 4 D.why) }:=by
   have hmg:m'.g=x.go:=hg';show ({ m'.s with gos:=m'.s.gos.set m'.g.toNat (ou (goI m'.s m'.g) 4 D.why) }:PSt)=_
   rw [← hs',hmg]
  have hv:=hO.fail hG.2.1 hG.2.2.1 hm;rw [e]at hv;exact hv
theorem XI (p:ay) (n k:Nat):(kP p n).getD k 0=if k<8∧k<n then (p.vars.getD k RH).init else 0:=by
 rw [List.getD_eq_getElem?_getD];by_cases h:k<8
 ·rw [List.getElem?_eq_getElem (by simp [kP,h])];simp only [kP,List.getElem_map,List.getElem_range,Option.getD_some];by_cases h2:k<n
  ·rw [if_pos h2,if_pos ⟨h,h2⟩]
  ·rw [if_neg h2,if_neg (fun e=>h2 e.2)]
 ·rw [List.getElem?_eq_none (by simp [kP];omega),if_neg (fun e=>h e.1)];rfl
theorem II {p:ay} {n:Int} (hr:dQ p=true) (hn:0≤n∧n≤4096):dw p (bV p n).1:=by
 have hp:=jg hr;have hok:OkS (bV p n).1:=yR
 rw [bV,if_neg (by rw [hr];decide),if_neg (fun e=>e hn)]at hok ⊢;show dw p (Wl p n.toNat)
 have hok':OkS (Wl p n.toNat):=hok;have hfun:=hp.funcs
 have hF:Dw p (aY p 0):=hp.fn _ (by
  rw [aY,List.getD_eq_getElem?_getD,List.getElem?_eq_getElem (show 0<p.funcs.length by omega)];exact List.getElem_mem _)
 have hl:uO p live0:=qH (g:=live0) (.inl rfl) (by show bQ 0 _;unfold bQ;omega) (by show bQ 0 (aY p 0).code.length;have:=hF.code;unfold bQ;omega) rfl (Oe _);obtain ⟨k1,k2,k3⟩:=Kt hp (F:=aY p 0) n.toNat live0 rfl hl (by show ¬ (1:Int)=2;decide) rfl;have hch:∀ k:Nat,dB (Wl p n.toNat) k=ch0:=fun k=>by
  match k with
  | 0 | 1 | 2 | 3=>rfl
  | k+4=>rfl
 have hgo:∀ k:Nat,(k:Int)≠0→(Wl p n.toNat).gos.getD k go0=go0:=fun k hk=>by
  match k,hk with
  | 0,hk=>exact absurd rfl hk
  | 1,_ | 2,_ | 3,_ | 4,_ | 5,_=>rfl
  | k+6,_=>rfl
 have hx:VX p (Wl p n.toNat) 0:=by
  refine ⟨hok',hr,by show 1≤(1:Int)∧(1:Int)≤6;decide,by show 0≤(0:Int)∧(0:Int)<1;decide,fun k hk hl=>?_,fun k hk=>?_,fun k hk hne=>?_,fun k hk=>⟨fun hl=>?_,fun _=>hch k⟩,fun k hk h0=>?_,fun k hk hne e=>?_⟩
  ·show (kP p p.vars.length).getD k 0=0;rw [XI,if_neg (by omega)]
  ·have e:(Wl p n.toNat).owner.getD k 0=0:=by
    match k,hk with
    | 0,_ | 1,_ | 2,_ | 3,_=>rfl
   unfold Nu;rw [e];exact ⟨by omega,by show (0:Int)≤1;decide,fun h=>absurd rfl h⟩
  ·unfold LD;rw [hgo k hne];exact ⟨fun h=>by have:(k:Int)<1:=h;omega,fun _=>rfl⟩
  ·have hcap:0≤BO p k:=(hp.caps _ (by rw [BO,List.getD_eq_getElem?_getD,List.getElem?_eq_getElem hl];exact List.getElem_mem _)).1;refine EJ (hch k) ⟨⟨⟨by decide,hcap⟩,by decide,fun e=>absurd rfl e⟩,fun j hj _=>?_,fun _=>⟨rfl,rfl⟩,fun e=>by exact absurd e (by decide),fun _=>rfl,fun e=>by exact absurd e (by decide)⟩ fun e=>absurd rfl e
   match j,hj with
   | 0,_ | 1,_ | 2,_ | 3,_=>rfl
  ·rw [hch k]at h0;exact absurd rfl h0
  ·rw [hgo k hne]at e;exact absurd e (by decide)
 exact hx.fin k1 k2
structure GS (p:ay) (s:PSt):Prop where
 ok:OkS s
 valid:dw p s
 ws:WS s
theorem GS.start {p:ay} {n:Int} (hw:FT p) (hr:dQ p=true) (hn:0≤n∧n≤4096):GS p (bV p n).1:=⟨yR,II hr hn,RQ hw n⟩
theorem Yr {m:PM} (h:WS m.s) (why:Int):WS { m.s with gos:=m.s.gos.set m.g.toNat (ou (aQ m) 4 why) }:=h.eP (x:=ou (aQ m) 4 why) (fun v hv=>by
 have:v=0:=by simpa [ou,z8]using hv
 rw [this];decide)
theorem ZF {p:ay} {s:PSt} {x:bI} {n:Int} (hw:FT p) (h:dR p s x.go) (hx:x.alt∈kU p s x.go) (hn:0≤n∧n≤4096) (hws:WS s):WS (doF p s x n).1:=by
 have hct:=h.valid.2.1;have hdo:doF p s x n=((yC p (sU p s x n).1 (sU p s x n).2.1 (sU p s x n).2.2).s,lF p s x (sU p s x n).1.val,0):=by
  rw [doF,if_neg (by rw [vM,if_neg (by rw [h.valid.1];decide),if_neg (fun hh=>hh h.valid)];decide),if_neg (fun hh=>hh hn),if_neg (fun hh=>hh ⟨h.pos,h.live,hx⟩)]
 rw [hdo];show WS (yC p (sU p s x n).1 (sU p s x n).2.1 (sU p s x n).2.2).s
 have hmd:MD (jE s x.go n) (Oo p s x n) (sU p s x n):=zy h hx;have hws2:WS (Oo p s x n).s:=Vp (m:=jE s x.go n) hws (by show 0≤s.count∧s.count≤6;omega) _ _ _
 obtain ⟨D,hD⟩:∃ D,Oo p s x n=D:=⟨_,rfl⟩;obtain ⟨r,hr⟩:∃ r,sU p s x n=r:=⟨_,rfl⟩;rw [hD,hr]at hmd;rw [hD]at hws2;rw [hr];by_cases hwy:D.why=0
 ·rcases Int.lt_or_le D.to 0 with ht | ht
  ·obtain ⟨h1,h2,_⟩:=hmd.wait hwy ht;rw [yC,if_pos h1,h2];exact hws2
  ·obtain ⟨h1,h2,h3⟩:=hmd.run hwy ht;have h0:WS { D.s with gos:=D.s.gos.set x.go.toNat { goI D.s x.go with pc:=r.2.1} }:=hws2.eP (x:={ goI D.s x.go with pc:=r.2.1}) (hws2.at _)
   have h4:WS (bD p { D.s with gos:=D.s.gos.set x.go.toNat { goI D.s x.go with pc:=r.2.1} } x.go n).1:=zq hw h0 _ _;rw [h1,yC,if_neg (show ¬ (false=true) by decide)];split
   ·exact zq hw h4 _ _
   ·exact h4
 ·obtain ⟨h1,_,h2⟩:=hmd.fail hwy;rw [yC,if_pos h1,h2];exact Yr (m:=⟨D.s,x.go,n,0,false⟩) hws2 D.why
theorem GS.do {p:ay} {s:PSt} {x:bI} {n:Int} (hw:FT p) (h:GS p s) (hx:x∈aN p s) (hn:0≤n∧n≤4096):GS p (doF p s x n).1:=by
 obtain ⟨h0,h2,_⟩:=KF hx;have h1:=zF h.ok h.valid h0
 exact ⟨X8 h.ok,UZ h1 h2 hn,ZF hw h1 h2 hn h.ws⟩
theorem J9 {z:Bool} {s:PSt}:∀ {k:Nat},kY z s k=true↔z=true ∨ ∃ i,i<k∧(s.gos.getD i go0).status=5
 | 0=>by simp [kY]
 | k+1=>by
  rw [kY,Bool.or_eq_true,J9 (k:=k),beq_iff_eq];constructor
  ·rintro ((h | ⟨i,h1,h2⟩) | h)
   ·exact .inl h
   ·exact .inr ⟨i,by omega,h2⟩
   ·exact .inr ⟨k,by omega,h⟩
  ·rintro (h | ⟨i,h1,h2⟩)
   ·exact .inl (.inl h)
   ·by_cases e:i=k
    ·subst e;exact .inr h2
    ·exact .inl (.inr ⟨i,by omega,h2⟩)
theorem Sz {z:Bool} {s:PSt} {i:Nat} (h:i<6) (h5:(s.gos.getD i go0).status=5):kY z s 6=true:=J9.2 (.inr ⟨i,h,h5⟩)
theorem Oz (z:Bool) (s:PSt):∀ k,kY z s k=(z||kY false s k)
 | 0=>by simp [kY]
 | k+1=>by rw [kY,kY,Oz z s k,Bool.or_assoc]
structure SR where
 runs:List yQ
 stop:Bool
 loose:Bool
def nT (i:Id) (p:ay) (b:iq) (t:SR):AV:=cu 157 [aj p,dD b,.own i t.runs.length 0 t.runs.length none,.bool t.stop,.bool t.loose]
abbrev srO (p:ay) (b:iq) (t:SR):Ob := .cells ⟨157,1,fun _=>nT (.b 1) p b t,0⟩
theorem yc {σ:Id→Id} {i j:Id} (h1:σ i=j) (p:ay) (b:iq) (t:SR):ren σ (nT i p b t)=nT j p b t:=bg (fun q=>by
 match q with
 | 0=>exact sZ σ p
 | 1=>exact DZ σ b
 | 2=>show AV.own (σ i) _ 0 _ none=_;rw [h1];rfl
 | 3 | 4 | q+5=>rfl)
theorem CJ (i:Id) (p:ay) (b:iq) (t:SR) (x:Bool):(nT i p b t).put [3] (.bool x)=nT i p b { t with stop:=x}:=bG (Nat.le_of_ble_eq_true rfl)
theorem vg (i:Id) (p:ay) (b:iq) (t:SR) (x:Bool):(nT i p b t).put [4] (.bool x)=nT i p b { t with loose:=x}:=bG (Nat.le_of_ble_eq_true rfl)
def oN (b:iq) (t:SR) (picks:List bI) (cut rep:Bool):SR:=if (t.runs.length:Int)≥b.runs then { t with stop:=true}else { t with runs:=t.runs++[⟨picks,cut,rep⟩],loose:=t.loose||cut}
theorem Tj (s:PSt):AC Tryz.prog T bn 104 [encS s] [] (.bool (kY false s 6)) []:=by
 refine aA hT Tryz.func104 rfl rfl (Nat.le_of_ble_eq_true rfl) ?_;refine sg rfl ?_;refine sq (sq ?_);refine WP.ent (st':=aK [(1,.rp 62 (encS s)),(2,.bool false)] []) (em [(.s 1 0,1)] ⟨sF,tt⟩ ⟨rq,cq,tt⟩ trivial) ?_;refine rg [] rfl ?_;refine bk ?_;refine WP.loop (α:=Nat) (fun i=>aK [(1,.rp 62 (encS s)),(6,ET 60 6 bP go0 s.gos),(7,.int i)] []) (fun i=>i≤6∧kY false s i=false) (fun i=>6 - i) ?_ ?_
 ·refine ⟨0,?_,?_⟩
  ·exact ⟨Nat.zero_le _,rfl⟩
  ·refine em [] trivial ⟨cq,cq,cq,tt⟩ trivial
 ·rintro i ⟨hi,hz⟩;refine sg rfl ?_;refine sq ?_;refine cd rfl (fun h2=>?_) (fun h2=>?_)
  ·have hil:i<6:=by simp [-List.getD_eq_getElem?_getD]at h2;omega
   refine sk (sq (bk (sq (rgs [] rfl ?_ ?_))))
   ·simp [-List.getD_eq_getElem?_getD,ak,under];omega
   refine sg rfl ?_;refine cd rfl (fun h4=>?_) (fun h4=>?_)
   ·have e5:(s.gos.getD i go0).status=5:=by simp [-List.getD_eq_getElem?_getD]at h4;exact h4
    refine sg rfl ?_;exact WP.ret (fin1 hT (by rfl) (Sz hil e5).symm)
   ·have e5:¬ (s.gos.getD i go0).status=5:=by simp [-List.getD_eq_getElem?_getD]at h4;exact h4
    refine sk (rg [] rfl ?_);refine ⟨i+1,?_,?_,?_⟩
    ·exact ⟨hil,by rw [kY,hz,Bool.false_or];simpa using e5⟩
    ·refine em [] trivial ⟨cq,cq,cq,tt⟩ trivial
    ·(try simp only []);first | omega | grind
  ·have hil:i=6:=by simp [-List.getD_eq_getElem?_getD]at h2;omega
   subst hil;refine xt (sq (rg [] rfl ?_));refine WP.ret ?_;change Fin ..;rw [hz];exact fin1 hT (by rfl) rfl
theorem Tm (p:ay) (b:iq) (hb:xQ b) (t:SR) (picks:List bI) (hp:picks.length≤256) (hp0:0<picks.length) (cut rep:Bool):AC Tryz.prog T bn 105 [.ptr (.b 0) 1 0 [],dS picks,.bool cut,.bool rep] [srO p b t,dH t.runs] (.tup []) [srO p b (oN b t picks cut rep),dH (oN b t picks cut rep).runs]:=by
 refine aA hT Tryz.func105 rfl rfl (Nat.le_of_ble_eq_true rfl) ?_;obtain ⟨_,_,hb3,hb4⟩:=hb;refine sq (sq (dr [] rfl ?_));refine cd rfl (fun h0=>?_) (fun h0=>?_)
 ·have ht:(t.runs.length:Int)≥b.runs:=by simp [-List.getD_eq_getElem?_getD]at h0;omega
  refine sg rfl ?_;refine WP.ret ?_;change Fin ..;rw [oN,if_pos ht];exact aJ hT [] (ts:=[]) (l:=[]) trivial trivial ⟨obs rfl (hg:=q0 (ah (CJ _ p b t true))),obs rfl,tt⟩ rfl rfl rfl
 ·have ht:¬ (t.runs.length:Int)≥b.runs:=by simp [-List.getD_eq_getElem?_getD]at h0;omega
  refine sk (sq (rg [] rfl ?_));refine sq (rgs [] rfl ?_ ?_)
  ·have hbt:(T 122).bytes=16:=rfl;simp [ak,under,hbt];omega
  refine sq ?_;refine WP.ent (st':=aK [(0,.ptr (.b 0) 1 0 []),(2,.bool cut),(3,.bool rep),(8,dS picks)] [(.b 0,srO p b t),(.b 1,dH t.runs)]) ?_ ?_
  ·refine em [(.s 25 0,picks.length)] ⟨⟨_,rfl,Nat.le_refl _⟩,tt⟩ ⟨cq,cq,cq,⟨rfl,_,rfl,fG rfl rfl rfl (fun h=>by cases h) (by simp [dP,aI]) (fun q hq=>⟨(congrArg eG ((qC (i:=0+q) (Nat.zero_le _) (by omega)).trans (by rw [Nat.zero_add,Nat.sub_zero]))).trans (show eG (aV (picks.getD q dX))=true from rfl),AEq.of_eq ((qC (i:=0+q) (Nat.zero_le _) (by omega)).trans (by rw [Nat.zero_add,Nat.sub_zero]))⟩)⟩,tt⟩ ⟨obs rfl,obs rfl,tt⟩
  refine rgs [] rfl ?_ ?_
  ·have hbt:(T 45).bytes=32:=rfl;exact au
  refine WP.ent (st':=aK [(0,.ptr (.b 0) 1 0 []),(2,.bool cut)] [(.b 0,srO p b { t with runs:=t.runs++[⟨picks,cut,rep⟩] }),(.b 1,dH (t.runs++[⟨picks,cut,rep⟩]))]) ?_ ?_
  ·refine em [] trivial ⟨cq,cq,tt⟩ ⟨obs rfl (hg:=q0 (ah (Eq.trans (b:=cu 157 [aj p,dD b,.own (.b 1) (t.runs.length+1) 0 (t.runs.length+1) none,.bool t.stop,.bool t.loose]) (bg fun q=>by match q with | 0 | 1 | 2 | 3 | 4 | q+5=>rfl) (congrArg (fun n=>cu 157 [aj p,dD b,.own (.b 1) n 0 n none,.bool t.stop,.bool t.loose]) (show t.runs.length+1=(t.runs++[(⟨picks,cut,rep⟩:yQ)]).length from (bH _ _).symm))))),bU (Ag _) rfl rfl (by rw [bH]) rfl rfl (JO (z:=(T 45).zero) rfl (bg fun q=>by match q with | 0 | 1 | 2 | q+3=>rfl) (fun q hq=>rfl)),tt⟩
  refine rg [] rfl ?_;rw [oN,if_neg ht];exact aJ hT [] (ts:=[]) (l:=[]) trivial trivial ⟨obs rfl (hg:=q0 (ah ((vg _ p b _ _).trans (by cases hl:t.loose <;> cases cut <;> rfl)))),obs rfl,tt⟩ rfl rfl rfl
theorem Tq (p:ay) (b:iq) (hb:xQ b) (t:SR) (f:Bool) (cut rep:Bool):AC Tryz.prog T bn 105 [.ptr (.b 0) 1 0 [],.row 122 f 0 (fun i=>aV (([]:List bI).getD i dX)),.bool cut,.bool rep] [srO p b t,dH t.runs] (.tup []) [srO p b (oN b t [] cut rep),dH (oN b t [] cut rep).runs]:=by
 refine aA hT Tryz.func105 rfl rfl (Nat.le_of_ble_eq_true rfl) ?_;obtain ⟨_,_,hb3,hb4⟩:=hb;refine sq (sq (dr [] rfl ?_));refine cd rfl (fun h0=>?_) (fun h0=>?_)
 ·have ht:(t.runs.length:Int)≥b.runs:=by simp [-List.getD_eq_getElem?_getD]at h0;omega
  refine sg rfl ?_;refine WP.ret ?_;change Fin ..;rw [oN,if_pos ht];exact aJ hT [] (ts:=[]) (l:=[]) trivial trivial ⟨obs rfl (hg:=q0 (ah (CJ _ p b t true))),obs rfl,tt⟩ rfl rfl rfl
 ·have ht:¬ (t.runs.length:Int)≥b.runs:=by simp [-List.getD_eq_getElem?_getD]at h0;omega
  refine sk (sq (rg [] rfl ?_));refine sq (rgs [CG.nop] rfl ?_ ?_)
  ·simp [ak,under]
  refine sq ?_;refine WP.ent (st':=aK [(0,.ptr (.b 0) 1 0 []),(2,.bool cut),(3,.bool rep),(8,dS ([]:List bI))] [(.b 0,srO p b t),(.b 1,dH t.runs)]) ?_ ?_
  ·refine em [] trivial ⟨cq,cq,cq,⟨rfl,_,rfl,dJ (show 0<(T 122).size by decide)⟩,tt⟩ ⟨obs rfl,obs rfl,tt⟩
  refine rgs [] rfl ?_ ?_
  ·have hbt:(T 45).bytes=32:=rfl;exact au
  refine WP.ent (st':=aK [(0,.ptr (.b 0) 1 0 []),(2,.bool cut)] [(.b 0,srO p b { t with runs:=t.runs++[⟨[],cut,rep⟩] }),(.b 1,dH (t.runs++[⟨[],cut,rep⟩]))]) ?_ ?_
  ·refine em [] trivial ⟨cq,cq,tt⟩ ⟨obs rfl (hg:=q0 (ah (Eq.trans (b:=cu 157 [aj p,dD b,.own (.b 1) (t.runs.length+1) 0 (t.runs.length+1) none,.bool t.stop,.bool t.loose]) (bg fun q=>by match q with | 0 | 1 | 2 | 3 | 4 | q+5=>rfl) (congrArg (fun n=>cu 157 [aj p,dD b,.own (.b 1) n 0 n none,.bool t.stop,.bool t.loose]) (show t.runs.length+1=(t.runs++[(⟨[],cut,rep⟩:yQ)]).length from (bH _ _).symm))))),bU (Ag _) rfl rfl (by rw [bH]) rfl rfl (JO (z:=(T 45).zero) rfl (bg fun q=>by match q with | 0 | 1 | 2 | q+3=>rfl) (fun q hq=>rfl)),tt⟩
  refine rg [] rfl ?_;rw [oN,if_neg ht];exact aJ hT [] (ts:=[]) (l:=[]) trivial trivial ⟨obs rfl (hg:=q0 (ah ((vg _ p b _ _).trans (by cases hl:t.loose <;> cases cut <;> rfl)))),obs rfl,tt⟩ rfl rfl rfl
theorem WO (p:ay) (b:iq) (hb:xQ b) (t:SR) (picks:List bI) (hp:picks.length≤256) (cut rep:Bool):AC Tryz.prog T bn 105 [.ptr (.b 0) 1 0 [],dS picks,.bool cut,.bool rep] [srO p b t,dH t.runs] (.tup []) [srO p b (oN b t picks cut rep),dH (oN b t picks cut rep).runs]:=by
 cases picks with
 | nil=>exact Tq p b hb t false cut rep
 | cons a r=>exact Tm p b hb t (a::r) hp (Nat.zero_lt_succ _) cut rep
abbrev mV (t:SR) (s:PSt):SR:={ t with loose:=t.loose||kY false s 6}
def uI (p:ay) (b:iq):Nat→PSt→List bI→SR→SR
 | 0,s,picks,t=>oN b (mV t s) picks (!(aN p s).isEmpty) false
 | k+1,s,picks,t=>if aN p s=[]then oN b (mV t s) picks false false else
  (aN p s).foldl (fun t x=>if t.stop=true then t else uI p b k (doF p s x b.fuel).1 (picks++[x]) t) (mV t s)
abbrev WV (p:ay) (b:iq) (k:Nat) (s:PSt) (picks:List bI) (t:SR) (x:bI):SR:=if t.stop=true then t else uI p b k (doF p s x b.fuel).1 (picks++[x]) t
theorem Dn {p:ay} {b:iq} {k:Nat} {s:PSt} {picks:List bI}:∀ (l:List bI) (t:SR),t.stop=true→l.foldl (WV p b k s picks) t=t
 | [],_,_=>rfl
 | x::r,t,h=>by
  have e:WV p b k s picks t x=t:=if_pos h;rw [List.foldl_cons,e];exact Dn r t h
theorem TA {p:ay} {b:iq} {k:Nat} {s:PSt} {picks:List bI} {t:SR} (h:aN p s=[]∨k=0):uI p b k s picks t=oN b (mV t s) picks (!(aN p s).isEmpty) false:=by
 cases k with
 | zero=>rfl
 | succ k =>
  have hz:aN p s=[]:=h.resolve_right (by omega);rw [uI,if_pos hz,hz];rfl
theorem TB {p:ay} {b:iq} {k:Nat} {s:PSt} {picks:List bI} {t:SR} (h:aN p s≠[]):uI p b (k+1) s picks t=(aN p s).foldl (WV p b k s picks) (mV t s):=by
 rw [uI,if_neg h]
abbrev TD (p:ay) (b:iq) (k:Nat):Prop := ∀ (s:PSt) (picks:List bI) (t:SR),picks.length+k=b.steps.toNat→GS p s→AC Tryz.prog T bn 57 [.ptr (.b 0) 1 0 [],encS s,dS picks] [srO p b t,dH t.runs] (.tup []) [srO p b (uI p b k s picks t),dH (uI p b k s picks t).runs]
theorem Pj {σ:Id→Id} (h1:σ (.b 1) = .b 1) (p:ay) (b:iq) (t:SR):gW σ (srO p b t)=srO p b t:=by
 show Ob.cells ⟨_,_,fun _=>ren σ (nT (.b 1) p b t),_⟩=_;rw [yc h1]
theorem CU {ids:List Id} {p:ay} {b:iq} {t:SR} {L:List yQ} (h:fB ids (nT (.b 1) p b t)=true):oG ids [srO p b t,dH L]:=⟨fun _ _=>h,fun _ _=>rfl,tt⟩
theorem Tn (p:ay) (b:iq) (hb:xQ b) (t:SR) (picks:List bI) (hp:picks.length≤256) (cut rep:Bool):AC Tryz.prog T bn 105 [.ptr (.b 0) 1 0 [],dS picks,.bool cut,.bool rep] [gW (sig [.b 0,.b 1] 0) (srO p b t),gW (sig [.b 0,.b 1] 0) (dH t.runs)] (.tup []) [srO p b (oN b t picks cut rep),dH (oN b t picks cut rep).runs]:=by
 rw [Pj rfl,gX (lg _)];exact WO p b hb t picks hp cut rep
theorem WY {p:ay} {b:iq} {k:Nat} (ih:TD p b k) (s:PSt) (picks:List bI) (t:SR) (h1:picks.length+k=b.steps.toNat) (h2:GS p s):AC Tryz.prog T bn 57 [.ptr (.b 0) 1 0 [],ren (sig [.b 0,.b 1] 0) (encS s),dS picks] [gW (sig [.b 0,.b 1] 0) (srO p b t),gW (sig [.b 0,.b 1] 0) (dH t.runs)] (.tup []) [srO p b (uI p b k s picks t),dH (uI p b k s picks t).runs]:=by
 rw [vY,Pj rfl,gX (lg _)];exact ih s picks t h1 h2
theorem WX {p:ay} {b:iq} {k:Nat} (ih:TD p b k) (s:PSt) (picks:List bI) (x:bI) (t:SR) (h1:picks.length+1+k=b.steps.toNat) (h2:GS p s) {n:Nat} {f:Bool} {g:Nat→AV} (hn:n=picks.length+1) (hg:∀ j,j<picks.length+1→g j=aV ((picks++[x]).getD j dX)):AC Tryz.prog T bn 57 [.ptr (.b 0) 1 0 [],ren (sig [.b 0,.b 1] 0) (encS s),.row 122 f n g] [gW (sig [.b 0,.b 1] 0) (srO p b t),gW (sig [.b 0,.b 1] 0) (dH t.runs)] (.tup []) [srO p b (uI p b k s (picks++[x]) t),dH (uI p b k s (picks++[x]) t).runs]:=by
 subst hn;refine AC.args hT (WY ih s (picks++[x]) t (by rw [bH];exact h1) h2) rfl (fun i a c ha hc=>?_)
 match i,ha,hc with
 | 0,ha,hc=>cases ha;cases hc;exact ah rfl
 | 1,ha,hc=>cases ha;cases hc;exact ah rfl
 | 2,ha,hc =>
  cases ha;cases hc;have e:dS (picks++[x]) = .row 122 false (picks.length+1) (fun i=>aV ((picks++[x]).getD i dX)):=by rw [← bH picks x];rfl
  rw [e];exact Bh (fun h=>by cases h) hg
theorem Ru (l:List bI) (x:bI) (j:Nat) (hj:j<l.length+1) {g:Nat→AV} (hg:g 0=aV x):og ((slB none (some (l.length:Int)) (some (l.length:Int)) l.length).2.1 - (slB none (some (l.length:Int)) (some (l.length:Int)) l.length).1).toNat 1 (fun j=>aV (l.getD ((slB none (some (l.length:Int)) (some (l.length:Int)) l.length).1.toNat+j) dX)) g j=aV ((l++[x]).getD j dX):=by
 have e1:((slB none (some (l.length:Int)) (some (l.length:Int)) l.length).2.1 - (slB none (some (l.length:Int)) (some (l.length:Int)) l.length).1).toNat=l.length:=by simp [slB]
 have e2:(fun j=>aV (l.getD ((slB none (some (l.length:Int)) (some (l.length:Int)) l.length).1.toNat+j) dX))=fun j=>aV (l.getD j dX):=by funext j;simp [slB]
 rw [e1,e2];exact Rw l x j hj hg
theorem IL (n:Nat):((slB none (some (n:Int)) (some (n:Int)) n).2.1 - (slB none (some (n:Int)) (some (n:Int)) n).1).toNat=n:=by simp [slB]
theorem KE (p:ay) (b:iq) (hb:xQ b) (hw:FT p) (k:Nat) (ih:∀ k',k=k'+1→TD p b k') (s:PSt) (picks:List bI) (t:SR) (hk:picks.length+k=b.steps.toNat) (hs:GS p s):AC Tryz.prog T bn 57 [.ptr (.b 0) 1 0 [],encS s,dS picks] [srO p b t,dH t.runs] (.tup []) [srO p b (uI p b k s picks t),dH (uI p b k s picks t).runs]:=by
 refine aA hT Tryz.func57 rfl rfl (Nat.le_of_ble_eq_true rfl) ?_;have hb1:=hb.1
 refine sg rfl ?_;refine sq ?_;refine WP.ent (st':=aK [(0,.ptr (.b 0) 1 0 []),(2,dS picks),(4,.rp 62 (encS s))] [(.b 0,srO p b t),(.b 1,dH t.runs)]) ?_ ?_
 ·refine em [(.s 4 0,1)] ⟨sF,tt⟩ ⟨cq,cq,rq,tt⟩ ⟨obs rfl,obs rfl,tt⟩
 refine rgs [CG.pure (.bool (kY false s 6))] rfl ?_ ?_
 ·clear ih;have hq:=Tj s
  exact au
 refine sq ?_;refine WP.ent (st':=aK [(0,.ptr (.b 0) 1 0 []),(2,dS picks),(4,.rp 62 (encS s))] [(.b 0,srO p b (mV t s)),(.b 1,dH t.runs)]) ?_ ?_
 ·refine em [] trivial ⟨cq,cq,cq,tt⟩ ⟨obs rfl (hg:=q0 (ah ((vg _ p b t _).trans (by cases hl:t.loose <;> cases hl2:kY false s 6 <;> simp [mV,hl,hl2])))),obs rfl,tt⟩
 refine drs [CG.pure (dS (aN p s))] rfl ?_ ?_
 ·clear ih;have hq:=O3 p s hs.ok (.inl hs.valid)
  exact au
 refine sq (sq (rg [] rfl ?_));refine cd rfl (fun h3=>?_) (fun h3=>?_)
 ·have hz:aN p s=[]∨k=0:=by
   rcases Nat.eq_zero_or_pos (aN p s).length with h8 | h8
   ·exact .inl (List.eq_nil_of_length_eq_zero h8)
   ·refine .inr ?_;rw [show (((aN p s).length:Int)==0)=false from beq_eq_false_iff_ne.2 (by omega)]at h3;have h9:(picks.length:Int)=b.steps:=by simpa using h3
    omega
  rw [TA hz];refine sq (rgs [⟨true,[.b 0,.b 1],.tup [],[srO p b (oN b (mV t s) picks (!(aN p s).isEmpty) false),dH (oN b (mV t s) picks (!(aN p s).isEmpty) false).runs]⟩] rfl ?_ ?_)
  ·clear ih;have e:decide (((aN p s).length:Int)>0) = !(aN p s).isEmpty:=by cases (aN p s) <;> simp <;> omega
   have hq:=Tn p b hb (mV t s) picks (by omega) (!(aN p s).isEmpty) false;have hk1:oG [.b 0,.b 1] [srO p b (mV t s),dH t.runs]:=CU rfl
   have hk2:oG (bs 2) [srO p b (oN b (mV t s) picks (!(aN p s).isEmpty) false),dH (oN b (mV t s) picks (!(aN p s).isEmpty) false).runs]:=CU rfl;rw [← e]at hq ⊢;rw [← e]at hk2;exact au
  exact WP.ret (aJ hT [] (ts:=[]) (l:=[]) trivial trivial ⟨obs rfl (hg:=q0 (ah (yc rfl p b _))),obs rfl (hg:=fun q hq=>ah (lg _ _)),tt⟩ rfl rfl rfl)
 ·have hz:aN p s≠[]:=fun e=>by rw [e]at h3;cases h3
  obtain ⟨n,hn⟩:∃ n,k=n+1:=by
   refine ⟨k - 1,?_⟩;rw [show (((aN p s).length:Int)==0)=false from beq_eq_false_iff_ne.2 (by have:=List.length_pos_iff.2 hz;omega)]at h3;have h9:(picks.length:Int)≠b.steps:=by simpa using h3
   omega
  subst hn;rw [TB hz];refine sk (sq (rg [] rfl ?_));refine bk ?_;refine WP.loop (α:=Nat×SR) (fun (⟨i,z⟩:Nat×SR)=>aK [(0,.ptr (.b 0) 1 0 []),(2,dS picks),(4,.rp 62 (encS s)),(48,dS (aN p s)),(49,.int (aN p s).length),(50,.int i)] [(.b 0,srO p b z),(.b 1,dH z.runs)]) (fun (⟨i,z⟩:Nat×SR)=>i≤(aN p s).length∧((aN p s).drop i).foldl (WV p b n s picks) z=(aN p s).foldl (WV p b n s picks) (mV t s)) (fun (⟨i,z⟩:Nat×SR)=>(aN p s).length - i) ?_ ?_
  ·refine ⟨⟨0,mV t s⟩,?_,?_⟩
   ·exact ⟨Nat.zero_le _,rfl⟩
   ·refine em [] trivial ⟨cq,cq,cq,cq,cq,cq,tt⟩ ⟨obs rfl,obs rfl,tt⟩
  ·rintro ⟨i,z⟩ ⟨hi2,hfl⟩;refine WP.rowlen 48 rfl (fun hl=>?_);refine sg rfl ?_;refine sq ?_;refine cd rfl (fun h6=>?_) (fun h6=>?_)
   ·have hil:i<(aN p s).length:=by simp [-List.getD_eq_getElem?_getD]at h6;omega
    have hdr:(aN p s).drop i=(aN p s).getD i dX::(aN p s).drop (i+1):=by rw [List.drop_eq_getElem_cons hil];simp [hil]
    rw [hdr,List.foldl_cons]at hfl;obtain ⟨x,hx⟩:∃ x,(aN p s).getD i dX=x:=⟨_,rfl⟩;rw [hx]at hfl;have hxr:x∈aN p s:=by rw [← hx,List.getD_eq_getElem?_getD,List.getElem?_eq_getElem hil];exact List.getElem_mem _
    refine sk (sq (bk (sq (rg [] rfl ?_))));refine sq (sq ?_);refine WP.ent (st':=aK [(0,.ptr (.b 0) 1 0 []),(2,dS picks),(4,.rp 62 (encS s)),(8,.rp 122 (aV x)),(48,dS (aN p s)),(49,.int (aN p s).length),(50,.int i)] [(.b 0,srO p b z),(.b 1,dH z.runs)]) ?_ ?_
    ·refine em [(.s 8 0,1)] ⟨sF,tt⟩ ⟨cq,cq,cq,⟨rfl,_,rfl,aZ rfl rfl (by decide) rfl (by rw [← hx];rfl) rfl⟩,cq,cq,cq,tt⟩ ⟨obs rfl,obs rfl,tt⟩
    refine rg [] rfl ?_;refine cd rfl (fun h8=>?_) (fun h8=>?_)
    ·refine WP.ret ?_;change Fin ..;have ho:z.stop=true:=h8
     have e3:WV p b n s picks z x=z:=if_pos ho;rw [e3,Dn _ _ ho]at hfl;rw [← hfl];exact aJ hT [] (ts:=[]) (l:=[]) trivial trivial ⟨obs rfl,obs rfl,tt⟩ rfl rfl rfl
    ·have ho:¬ z.stop=true:=fun e=>absurd (e.symm.trans h8) (by decide);have e3:WV p b n s picks z x=uI p b n (doF p s x b.fuel).1 (picks++[x]) z:=if_neg ho
     refine sk (sq (drs [CG.pure (.tup [encS (doF p s x b.fuel).1,kF (doF p s x b.fuel).2.1,.int (doF p s x b.fuel).2.2])] rfl ?_ ?_))
     ·clear ih;have hq:=YQ p s x b.fuel hs.ok hs.valid hw hs.ws
      exact au
     refine WP.ent (st':=aK [(0,.ptr (.b 0) 1 0 []),(2,dS picks),(4,.rp 62 (encS s)),(8,.rp 122 (aV x)),(9,.rp 62 (encS (doF p s x b.fuel).1)),(48,dS (aN p s)),(49,.int (aN p s).length),(50,.int i)] [(.b 0,srO p b z),(.b 1,dH z.runs)]) ?_ ?_
     ·refine em [(.s 9 0,1)] ⟨sF,tt⟩ ⟨cq,cq,cq,cq,rq,cq,cq,cq,tt⟩ ⟨obs rfl,obs rfl,tt⟩
     refine drs [⟨true,[.b 0,.b 1],.tup [],[srO p b (uI p b n (doF p s x b.fuel).1 (picks++[x]) z),dH (uI p b n (doF p s x b.fuel).1 (picks++[x]) z).runs]⟩] rfl ?_ ?_
     ·have hbt:(T 122).bytes=16:=rfl;have hk1:oG [.b 0,.b 1] [srO p b z,dH z.runs]:=CU rfl
      have hk2:oG (bs 2) [srO p b (uI p b n (doF p s x b.fuel).1 (picks++[x]) z),dH (uI p b n (doF p s x b.fuel).1 (picks++[x]) z).runs]:=CU rfl;have ih1:=ih n rfl
      clear ih;have hps:picks.length+1+n=b.steps.toNat:=by omega
      have hpl:picks.length<256:=by omega
      have hod:=hs.do (x:=x) (n:=b.fuel) hw hxr hb.2.1;simp only [ak,under,CG.pure]
      repeat' with_reducible refine And.intro ?_ ?_
      all_goals (try with_reducible intros)
      all_goals (first | exact trivial | assumption | omega | (exact rfl) | (rename_i j hj;rw [IL]at hj;refine (congrArg eG (Ru picks x _ ?_ ?_)).trans rfl <;> first | rfl | omega) | (exact WX ih1 _ picks x z hps hod (by rw [IL]) (fun j hj=>Ru picks x j hj (by rfl))) | (rw [IL,hbt];omega) | (simp;done) | (simp [slB,wV];done) | (simp [slB,wV];omega) | trace_state)
     refine rg [] rfl ?_;refine ⟨⟨i+1,uI p b n (doF p s x b.fuel).1 (picks++[x]) z⟩,?_,?_,?_⟩
     ·exact ⟨hil,by rw [← hfl,e3]⟩
     ·refine em [] trivial ⟨cq,cq,cq,cq,cq,cq,tt⟩ ⟨obs rfl (hg:=q0 (ah (yc rfl p b _))),obs rfl (hg:=fun q hq=>ah (lg _ _)),tt⟩
     ·(try simp only []);first | omega | grind
   ·have hil:i=(aN p s).length:=by simp [-List.getD_eq_getElem?_getD]at h6;omega
    refine xt ?_;rw [hil,List.drop_length]at hfl;have hfl:z=_:=hfl
    rw [← hfl];exact aJ hT [] (ts:=[]) (l:=[]) trivial trivial ⟨obs rfl,obs rfl,tt⟩ rfl rfl rfl
def Ig (t:TS):SR:=⟨t.runs,t.over,t.short||t.spun⟩
def sr0:SR:=⟨[],false,false⟩
theorem J8 (t:TS) (s:PSt):mV (Ig t) s=Ig (ql t s 6):=by
 show (⟨t.runs,t.over,(t.short||t.spun)||kY false s 6⟩:SR)=⟨t.runs,t.over,t.short||kY t.spun s 6⟩;rw [Oz t.spun s 6,Bool.or_assoc]
theorem Oy {b:iq} {t:TS} {s:PSt} {picks:List bI} {cut:Bool}:oN b (Ig t) picks cut false=Ig (yM b s picks cut t):=by
 unfold oN yM vS;by_cases h:(t.runs.length:Int)<b.runs
 ·rw [if_neg (show ¬ ((Ig t).runs.length:Int)≥b.runs by show ¬ (t.runs.length:Int)≥b.runs;omega),if_neg (by simp [h])];show (⟨t.runs++[⟨picks,cut,false⟩],t.over,(t.short||t.spun)||cut⟩:SR)=⟨t.runs++[⟨picks,cut,false⟩],t.over,(t.short||cut)||t.spun⟩
  cases t.short <;> cases t.spun <;> cases cut <;> rfl
 ·rw [if_pos (show ((Ig t).runs.length:Int)≥b.runs by show (t.runs.length:Int)≥b.runs;omega),if_pos (by simp [h])];rfl
theorem YF {p:ay} {b:iq}:∀ (k:Nat) (s:PSt) (picks:List bI) (t:TS),uI p b k s picks (Ig t)=Ig (onF p b k s picks t)
 | 0,s,picks,t=>by
  rw [uI,onF,J8,Oy]
 | k+1,s,picks,t=>by
  rw [uI,onF,J8];by_cases h:aN p s=[]
  ·rw [if_pos h,if_pos h,Oy]
  ·rw [if_neg h,if_neg h];generalize ql t s 6=z
   induction aN p s generalizing z with
   | nil=>rfl
   | cons x r ih =>
    rw [List.foldl_cons,List.foldl_cons];have e:(if (Ig z).stop=true then Ig z else uI p b k (doF p s x b.fuel).1 (picks++[x]) (Ig z))=Ig (if z.over=true then z else onF p b k (doF p s x b.fuel).1 (picks++[x]) z):=by
     by_cases ho:z.over=true
     ·rw [if_pos ho,if_pos (show (Ig z).stop=true from ho)]
     ·rw [if_neg ho,if_neg (show ¬ (Ig z).stop=true from ho),YF k]
    rw [e];exact ih _
def OV (p:ay) (b:iq):SR:=if gZ p 0 b=0 then uI p b b.steps.toNat (bV p b.fuel).1 [] sr0 else sr0
theorem Td (p:ay) (b:iq):OV p b=Ig (kX p b):=by
 unfold OV kX;split
 ·exact YF _ _ _ ts0
 ·rfl
theorem VA {p:ay} {b:iq} (hb:xQ b) (hw:FT p):∀ k,TD p b k
 | 0=>fun s picks t h1 h2=>KE p b hb hw 0 (fun _ e=>by cases e) s picks t h1 h2
 | k+1=>fun s picks t h1 h2=>KE p b hb hw (k+1) (fun j e=>by cases e;exact VA hb hw k) s picks t h1 h2
theorem Pq (p:ay) (b:iq):AC Tryz.prog T bn 55 [aj p,dD b] [] (.ptr (.b 0) 1 0 []) [srO p b sr0,dH sr0.runs]:=by
 refine aA hT Tryz.func55 rfl rfl (Nat.le_of_ble_eq_true rfl) ?_;refine sg rfl ?_;refine sg rfl ?_;refine WP.ret ?_;change Fin ..;refine Eu hT [] [.s 8 0,.s 900 0] (ts:=[(4,.ptr (.b 0) 1 0 [])]) (l:=[.ptr (.b 0) 1 0 []]) trivial rfl ⟨⟨_,.ptr (.s 8 0) 1 0 [],rfl,ah rfl,rfl,rfl⟩,tt⟩ ⟨.inl ⟨_,.cells ⟨157,1,fun _=>nT (.s 900 0) p b sr0,0⟩,rfl,⟨fun _=>nT (.s 900 0) p b sr0,0,rfl,Nat.le_refl _,Nat.zero_le _,Nat.zero_le _,fun i hi=>?_⟩,fun _ _=>rfl,?_⟩,.inr ⟨rfl,45,_,rfl,by decide⟩,tt⟩ rfl rfl
 ·exact ⟨_,rfl,fun q hq=>by match q with | 0=>exact ah rfl | 1=>exact ah rfl | 2=>exact eU | 3=>exact ah rfl | 4=>exact ah rfl | q+5=>exact absurd hq (by simp)⟩
 ·show srO p b sr0=Ob.cells ⟨157,1,fun _=>ren _ (nT (.s 900 0) p b sr0),0⟩;rw [yc (j := .b 1) rfl]
def Zd (L:List yQ):Ob := .cells ⟨45,L.length,fun i=>uQ (L.getD i DW),L.length⟩
abbrev FM (L:List yQ) (w:Bool):AV:=cu 32 [O6 L,.bool w]
theorem Tf (p:ay) (b:iq) (t:SR):AC Tryz.prog T bn 58 [.ptr (.b 0) 1 0 []] [srO p b t,dH t.runs] (FM t.runs (!t.stop && !t.loose)) [srO p b t,Zd t.runs]:=by
 refine aA hT Tryz.func58 rfl rfl (Nat.le_of_ble_eq_true rfl) ?_;refine sg rfl ?_;refine sq (dr [] rfl ?_);refine WP.ret ?_;change Fin ..;refine Fin.ent (Ent.mk (P:=Tryz.prog) hT [(.b 1,t.runs.length)] (ts:=[(2,.ptr (.s 2 0) 1 0 [])]) (ms:=[(.b 0,srO p b t),(.b 1,Zd t.runs),(.s 2 0,.cells ⟨32,1,fun _=>FM t.runs (!t.stop && !t.loose),0⟩)]) ⟨⟨_,rfl,Nat.le_refl _⟩,tt⟩ ⟨⟨by simp [fB,iI,aI],_,rfl,ah rfl⟩,tt⟩ ⟨obs rfl,⟨fun _ _=>rfl,.inl ⟨_,rfl,fun i=>uQ (t.runs.getD i DW),t.runs.length,rfl,Nat.zero_le _,Nat.le_refl _,Nat.le_refl _,fun i hi=>ah rfl⟩⟩,obs rfl (hg:=q0 ⟨_,rfl,fun i hi=>?_⟩),tt⟩ rfl) ?_
 ·match i with
  | 0=>exact fG rfl rfl rfl (fun h=>by cases h) (by simp [dP,aI]) (fun q hq=>by rw [Nat.zero_add];exact ⟨rfl,AEq.refl _⟩)
  | 1=>exact ah (by cases t.stop <;> cases t.loose <;> rfl)
  | i+2=>exact absurd hi (by simp)
 ·exact aJ hT [(.s 2 0,1)] (ts:=[(2,.rp 32 (FM t.runs (!t.stop && !t.loose)))]) (l:=[FM t.runs (!t.stop && !t.loose)]) ⟨⟨_,rfl,Nat.le_refl _⟩,tt⟩ ⟨⟨rfl,_,rfl,aZ rfl rfl (by decide) rfl rfl rfl⟩,tt⟩ ⟨obs rfl,⟨fun _ _=>rfl,.inl ⟨_,rfl,_,_,rfl,Nat.le_refl _,Nat.zero_le _,Nat.le_refl _,fun i hi=>ah rfl⟩⟩,tt⟩ rfl rfl rfl
theorem WZ {p:ay} {b:iq} (hb:xQ b) (hw:FT p) (s:PSt) (h2:GS p s):AC Tryz.prog T bn 57 [.ptr (.b 0) 1 0 [],ren (sig [.s 19 1,.s 19 2] 0) (encS s),.v (.slice none 0 0)] [gW (sig [.s 19 1,.s 19 2] 0) (.cells ⟨157,1,fun _=>nT (.s 19 2) p b sr0,0⟩),gW (sig [.s 19 1,.s 19 2] 0) (dH [])] (.tup []) [srO p b (uI p b b.steps.toNat s [] sr0),dH (uI p b b.steps.toNat s [] sr0).runs]:=by
 have e:gW (sig [.s 19 1,.s 19 2] 0) (.cells ⟨157,1,fun _=>nT (.s 19 2) p b sr0,0⟩)=srO p b sr0:=by
  show Ob.cells ⟨_,_,fun _=>ren _ (nT (.s 19 2) p b sr0),_⟩=_;rw [yc (j := .b 1) rfl]
 rw [vY,e,gX (lg _)];refine AC.args hT (VA hb hw b.steps.toNat s [] sr0 (by simp) h2) rfl (fun i a c ha hc=>?_)
 match i,ha,hc with
 | 0,ha,hc=>cases ha;cases hc;exact ah rfl
 | 1,ha,hc=>cases ha;cases hc;exact ah rfl
 | 2,ha,hc=>cases ha;cases hc;exact dJ (by decide)
theorem OY {p:ay} {b:iq} (t:SR):AC Tryz.prog T bn 58 [.ptr (.b 0) 1 0 []] [gW (sig [.s 19 1,.s 19 2] 0) (.cells ⟨157,1,fun _=>nT (.s 19 2) p b t,0⟩),gW (sig [.s 19 1,.s 19 2] 0) (dH t.runs)] (FM t.runs (!t.stop && !t.loose)) [srO p b t,Zd t.runs]:=by
 have e:gW (sig [.s 19 1,.s 19 2] 0) (.cells ⟨157,1,fun _=>nT (.s 19 2) p b t,0⟩)=srO p b t:=by
  show Ob.cells ⟨_,_,fun _=>ren _ (nT (.s 19 2) p b t),_⟩=_;rw [yc (j := .b 1) rfl]
 rw [e,gX (lg _)];exact Tf p b t
theorem Xc (p:ay) (b:iq) (hw:FT p):AC Tryz.prog T bn 17 [aj p,dD b] [] (.tup [FM (kX p b).runs (qK p b),.int (gZ p 0 b)]) []:=by
 refine aA hT Tryz.func17 rfl rfl (Nat.le_of_ble_eq_true rfl) ?_;refine sg rfl ?_;refine sq ?_;refine WP.ent (st':=aK [(2,.rp 26 (aj p)),(3,.rp 28 (dD b)),(5,.int 0),(4,.ptr (.s 4 0) 1 0 [])] [(.s 4 0,.cells ⟨32,1,fun _=>(T 32).zero,0⟩)]) (em [(.s 2 0,1),(.s 3 0,1)] ⟨sF,sF,tt⟩ ⟨rq,rq,cq,cq,tt⟩ ⟨obs rfl,tt⟩) ?_;refine rgs [CG.pure (.int (gZ p 0 b))] rfl ?_ ?_
 ·have hq:=Pv p 0 b;exact au
 refine sq (sq (rg [] rfl ?_));refine cd rfl (fun h2=>?_) (fun h2=>?_)
 ·have hf:gZ p 0 b≠0:=by simpa using h2
  refine sg rfl ?_;refine WP.ret ?_;change Fin ..;have e1:qK p b=false:=by rw [qK,decide_eq_false hf];rfl
  have e2:(kX p b).runs=[]:=by rw [kX,if_neg hf];rfl
  rw [e1,e2];exact oU hT rfl rfl rfl ⟨_,rfl,fun i hi=>by match i with | 0=>exact dJ (by decide) | 1=>exact ah rfl | i+2=>exact absurd hi (by simp)⟩ rfl
 ·have hf:gZ p 0 b=0:=by simpa using h2
  obtain ⟨hr,_,hb⟩:=XW hf;have hgs:GS p (bV p b.fuel).1:=GS.start hw hr hb.2.1
  refine sk (sq (rgs [⟨true,[],.ptr (.b 0) 1 0 [],[srO p b sr0,dH sr0.runs]⟩] rfl ?_ ?_))
  ·have hq:AC Tryz.prog T bn 55 [ren (sig [] 0) (aj p),ren (sig [] 0) (dD b)] (List.map (gW (sig [] 0)) []) (.ptr (.b 0) 1 0 []) [srO p b sr0,dH sr0.runs]:=by rw [sZ,DZ];exact Pq p b
   have hk2:oG (bs 2) [srO p b sr0,dH sr0.runs]:=CU rfl;simp only [ak,under]
   repeat' with_reducible refine And.intro ?_ ?_
   all_goals (try with_reducible intros)
   all_goals (first | exact trivial | exact hq | exact hk2 | assumption | (simp;done) | trace_state)
  refine sq ?_;refine WP.ent (st':=aK [(2,.rp 26 (aj p)),(3,.rp 28 (dD b)),(4,.ptr (.s 4 0) 1 0 []),(5,.int 0),(7,.ptr (.s 19 1) 1 0 [])] [(.s 4 0,.cells ⟨32,1,fun _=>(T 32).zero,0⟩),(.s 19 1,.cells ⟨157,1,fun _=>nT (.s 19 2) p b sr0,0⟩),(.s 19 2,dH [])]) ?_ ?_
  ·refine em [] trivial ⟨cq,cq,cq,cq,cq,tt⟩ ⟨obs rfl,obs rfl (hg:=q0 (ah (yc (i := .b 1) rfl p b sr0))),obs rfl (hg:=fun q hq=>absurd hq (Nat.not_lt_zero _)),tt⟩
  refine rgs [CG.pure (.tup [encS (bV p b.fuel).1,.int (bV p b.fuel).2])] rfl ?_ ?_
  ·have hq:=O0 p b.fuel hw;exact au
  refine sq ?_;refine WP.ent (st':=aK [(2,.rp 26 (aj p)),(3,.rp 28 (dD b)),(4,.ptr (.s 4 0) 1 0 []),(5,.int 0),(7,.ptr (.s 19 1) 1 0 []),(8,.rp 62 (encS (bV p b.fuel).1))] [(.s 4 0,.cells ⟨32,1,fun _=>(T 32).zero,0⟩),(.s 19 1,.cells ⟨157,1,fun _=>nT (.s 19 2) p b sr0,0⟩),(.s 19 2,dH [])]) ?_ ?_
  ·refine em [(.s 8 0,1)] ⟨sF,tt⟩ ⟨cq,cq,cq,cq,cq,rq,tt⟩ ⟨obs rfl,obs rfl,obs rfl,tt⟩
  refine rgs [⟨true,[.s 19 1,.s 19 2],.tup [],[srO p b (uI p b b.steps.toNat (bV p b.fuel).1 [] sr0),dH (uI p b b.steps.toNat (bV p b.fuel).1 [] sr0).runs]⟩] rfl ?_ ?_
  ·have hq:=WZ (p:=p) hb hw (bV p b.fuel).1 hgs;have hk1:oG [.s 19 1,.s 19 2] [.cells ⟨157,1,fun _=>nT (.s 19 2) p b sr0,0⟩,dH []]:=⟨fun _ _=>rfl,fun _ _=>rfl,tt⟩
   have hk2:oG (bs 2) [srO p b (uI p b b.steps.toNat (bV p b.fuel).1 [] sr0),dH (uI p b b.steps.toNat (bV p b.fuel).1 [] sr0).runs]:=CU rfl;exact au
  refine sq ?_;obtain ⟨z,hz⟩:∃ z,uI p b b.steps.toNat (bV p b.fuel).1 [] sr0=z:=⟨_,rfl⟩;have hz0:Ig (kX p b)=z:=by rw [← Td,OV,if_pos hf,hz]
  rw [hz];refine WP.ent (st':=aK [(4,.ptr (.s 4 0) 1 0 []),(7,.ptr (.s 19 1) 1 0 [])] [(.s 4 0,.cells ⟨32,1,fun _=>(T 32).zero,0⟩),(.s 19 1,.cells ⟨157,1,fun _=>nT (.s 19 2) p b z,0⟩),(.s 19 2,dH z.runs)]) ?_ ?_
  ·refine em [] trivial ⟨cq,cq,tt⟩ ⟨obs rfl,obs rfl (hg:=q0 (ah (yc (i := .b 1) rfl p b z))),obs rfl (hg:=fun q hq=>ah (lg _ _)),tt⟩
  refine rgs [⟨true,[.s 19 1,.s 19 2],FM z.runs (!z.stop && !z.loose),[srO p b z,Zd z.runs]⟩] rfl ?_ ?_
  ·have hq:=OY (p:=p) (b:=b) z;have hk1:oG [.s 19 1,.s 19 2] [.cells ⟨157,1,fun _=>nT (.s 19 2) p b z,0⟩,dH z.runs]:=⟨fun _ _=>rfl,fun _ _=>rfl,tt⟩
   have hk2:oG (bs 2) [srO p b z,Zd z.runs]:=⟨fun _ _=>rfl,fun _ _=>rfl,tt⟩;exact au
  refine WP.ret ?_;change Fin ..;have e1:qK p b=(!z.stop && !z.loose):=by
   rw [← hz0,qK,decide_eq_true hf];show (true && !(kX p b).over && !(kX p b).short && !(kX p b).spun)=(!(kX p b).over && !((kX p b).short||(kX p b).spun))
   cases (kX p b).over <;> cases (kX p b).short <;> cases (kX p b).spun <;> rfl
  have e2:(kX p b).runs=z.runs:=by rw [← hz0];rfl
  rw [e1,e2,hf];exact oU hT rfl rfl rfl (ah (bg fun q=>by match q with | 0 | 1 | q+2=>rfl)) rfl
theorem OO (f:iL):AC Tryz.prog T bn 59 [dI f,dI f] [] (.bool true) []:=by
 refine aA hT Tryz.func59 rfl rfl (Nat.le_of_ble_eq_true rfl) ?_;refine sg rfl ?_;refine sq (sq ?_);refine WP.ent (st':=aK [(2,.rp 100 (dI f)),(3,.rp 100 (dI f)),(4,.bool false)] []) (em [(.s 2 0,1),(.s 3 0,1)] ⟨sF,sF,tt⟩ ⟨rq,rq,cq,tt⟩ trivial) ?_;refine rg [] rfl ?_;refine cd rfl (fun h1=>?_) (fun h1=>?_)
 ·simp at h1
 ·refine sk (sq (sq (rg [] rfl ?_)));refine bk ?_;refine WP.loop (α:=Nat) (fun i=>aK [(2,.rp 100 (dI f)),(3,.rp 100 (dI f)),(4,.bool false),(41,rowP 120 aP qR f.code),(42,.int f.code.length),(43,.int i)] []) (fun i=>i≤f.code.length) (fun i=>f.code.length - i) ?_ ?_
  ·refine ⟨0,?_,?_⟩
   ·exact Nat.zero_le _
   ·refine em [] trivial ⟨cq,cq,cq,cq,cq,cq,tt⟩ trivial
  ·rintro i hi;refine WP.rowlen 41 rfl (fun hl=>?_);refine sg rfl ?_;refine sq ?_;refine cd rfl (fun h4=>?_) (fun h4=>?_)
   ·have hil:i<f.code.length:=by simp [-List.getD_eq_getElem?_getD]at h4;omega
    refine sk (sq (bk (sq (rg [] rfl ?_))));refine sq (drs [] rfl ?_ ?_)
    ·simp [-List.getD_eq_getElem?_getD,ak,under];omega
    refine cd rfl (fun h6=>?_) (fun h6=>?_)
    ·simp at h6
    ·refine sk (rg [] rfl ?_);refine ⟨i+1,?_,?_,?_⟩
     ·omega
     ·refine em [] trivial ⟨cq,cq,cq,cq,cq,cq,tt⟩ trivial
     ·(try simp only []);first | omega | grind
   ·have hil:i=f.code.length:=by simp [-List.getD_eq_getElem?_getD]at h4;omega
    refine xt (sq (sq (rg [] rfl ?_)));refine bk ?_;refine WP.loop (α:=Nat) (fun i=>aK [(2,.rp 100 (dI f)),(3,.rp 100 (dI f)),(4,.bool false),(59,rowP 103 fD wL f.sels),(60,.int f.sels.length),(61,.int i)] []) (fun i=>i≤f.sels.length) (fun i=>f.sels.length - i) ?_ ?_
    ·refine ⟨0,?_,?_⟩
     ·exact Nat.zero_le _
     ·refine em [] trivial ⟨cq,cq,cq,cq,cq,cq,tt⟩ trivial
    ·rintro i hi2;refine WP.rowlen 59 rfl (fun hl2=>?_);refine sg rfl ?_;refine sq ?_;refine cd rfl (fun h10=>?_) (fun h10=>?_)
     ·have hil2:i<f.sels.length:=by simp [-List.getD_eq_getElem?_getD]at h10;omega
      obtain ⟨q,hq⟩:∃ q,f.sels.getD i wL=q:=⟨_,rfl⟩;refine sk (sq (bk (sq (rg [] rfl ?_))));refine sq (rgs [] rfl ?_ ?_)
      ·simp [-List.getD_eq_getElem?_getD,ak,under];omega
      refine sq (rgs [] rfl ?_ ?_)
      ·simp [-List.getD_eq_getElem?_getD,ak,under];omega
      refine sq (sq ?_);refine WP.ent (st':=aK [(2,.rp 100 (dI f)),(3,.rp 100 (dI f)),(4,.bool false),(7,.rp 103 (fD q)),(8,.rp 103 (fD q)),(59,rowP 103 fD wL f.sels),(60,.int f.sels.length),(61,.int i)] []) ?_ ?_
      ·refine em [(.s 7 0,1),(.s 8 0,1)] ⟨sF,sF,tt⟩ ⟨cq,cq,cq,⟨rfl,_,rfl,aZ rfl rfl (by decide) rfl (by rw [← hq];rfl) rfl⟩,⟨rfl,_,rfl,aZ rfl rfl (by decide) rfl (by rw [← hq];rfl) rfl⟩,cq,cq,cq,tt⟩ trivial
      refine rg [] rfl ?_;refine cd rfl (fun h14=>?_) (fun h14=>?_)
      ·simp at h14
      ·refine sk (sq (rg [] rfl ?_));refine bk ?_;refine WP.loop (α:=Nat) (fun j=>aK [(2,.rp 100 (dI f)),(3,.rp 100 (dI f)),(4,.bool false),(7,.rp 103 (fD q)),(8,.rp 103 (fD q)),(59,rowP 103 fD wL f.sels),(60,.int f.sels.length),(61,.int i),(89,rowP 215 mP EK q.cases),(90,.int q.cases.length),(91,.int j)] []) (fun j=>j≤q.cases.length) (fun j=>q.cases.length - j) ?_ ?_
       ·refine ⟨0,?_,?_⟩
        ·exact Nat.zero_le _
        ·refine em [] trivial ⟨cq,cq,cq,cq,cq,cq,cq,cq,cq,cq,cq,tt⟩ trivial
       ·rintro j hj;refine WP.rowlen 89 rfl (fun hl3=>?_);refine sg rfl ?_;refine sq ?_;refine cd rfl (fun h17=>?_) (fun h17=>?_)
        ·have hjl:j<q.cases.length:=by simp [-List.getD_eq_getElem?_getD]at h17;omega
         refine sk (sq (bk (sq (rg [] rfl ?_))));refine sq (drs [] rfl ?_ ?_)
         ·simp [-List.getD_eq_getElem?_getD,ak,under];omega
         refine cd rfl (fun h19=>?_) (fun h19=>?_)
         ·simp at h19
         ·refine sk (rg [] rfl ?_);refine ⟨j+1,?_,?_,?_⟩
          ·omega
          ·refine em [] trivial ⟨cq,cq,cq,cq,cq,cq,cq,cq,cq,cq,cq,tt⟩ trivial
          ·(try simp only []);first | omega | grind
        ·refine xt (rg [] rfl ?_);refine ⟨i+1,?_,?_,?_⟩
         ·omega
         ·refine em [] trivial ⟨cq,cq,cq,cq,cq,cq,tt⟩ trivial
         ·(try simp only []);first | omega | grind
     ·refine xt (sq (rg [] rfl ?_));exact WP.ret (fin1 hT (by rfl) rfl)
theorem IX (p:ay):AC Tryz.prog T bn 19 [aj p,aj p] [] (.bool true) []:=by
 refine aA hT Tryz.func19 rfl rfl (Nat.le_of_ble_eq_true rfl) ?_;refine sg rfl ?_;refine sq (sq ?_);refine WP.ent (st':=aK [(2,.rp 26 (aj p)),(3,.rp 26 (aj p)),(4,.bool false)] []) (em [(.s 2 0,1),(.s 3 0,1)] ⟨sF,sF,tt⟩ ⟨rq,rq,cq,tt⟩ trivial) ?_;refine rg [] rfl ?_;refine cd rfl (fun h1=>?_) (fun h1=>?_)
 ·simp at h1
 ·refine sk (sq (sq (rg [] rfl ?_)));refine bk ?_;refine WP.loop (α:=Nat) (fun i=>aK [(2,.rp 26 (aj p)),(3,.rp 26 (aj p)),(4,.bool false),(41,rowP 116 Dq RH p.vars),(42,.int p.vars.length),(43,.int i)] []) (fun i=>i≤p.vars.length) (fun i=>p.vars.length - i) ?_ ?_
  ·refine ⟨0,?_,?_⟩
   ·exact Nat.zero_le _
   ·refine em [] trivial ⟨cq,cq,cq,cq,cq,cq,tt⟩ trivial
  ·rintro i hi;refine WP.rowlen 41 rfl (fun hl=>?_);refine sg rfl ?_;refine sq ?_;refine cd rfl (fun h4=>?_) (fun h4=>?_)
   ·have hil:i<p.vars.length:=by simp [-List.getD_eq_getElem?_getD]at h4;omega
    refine sk (sq (bk (sq (rg [] rfl ?_))));refine sq (drs [] rfl ?_ ?_)
    ·simp [-List.getD_eq_getElem?_getD,ak,under];omega
    refine cd rfl (fun h6=>?_) (fun h6=>?_)
    ·simp at h6
    ·refine sk (rg [] rfl ?_);refine ⟨i+1,?_,?_,?_⟩
     ·omega
     ·refine em [] trivial ⟨cq,cq,cq,cq,cq,cq,tt⟩ trivial
     ·(try simp only []);first | omega | grind
   ·refine xt (sq (sq (rg [] rfl ?_)));refine bk ?_;refine WP.loop (α:=Nat) (fun i=>aK [(2,.rp 26 (aj p)),(3,.rp 26 (aj p)),(4,.bool false),(59,ints false p.chans),(60,.int p.chans.length),(61,.int i)] []) (fun i=>i≤p.chans.length) (fun i=>p.chans.length - i) ?_ ?_
    ·refine ⟨0,?_,?_⟩
     ·exact Nat.zero_le _
     ·refine em [] trivial ⟨cq,cq,cq,cq,cq,cq,tt⟩ trivial
    ·rintro i hi2;refine WP.rowlen 59 rfl (fun hl2=>?_);refine sg rfl ?_;refine sq ?_;refine cd rfl (fun h10=>?_) (fun h10=>?_)
     ·have hil2:i<p.chans.length:=by simp [-List.getD_eq_getElem?_getD]at h10;omega
      refine sk (sq (bk (sq (rg [] rfl ?_))));refine sq (drs [] rfl ?_ ?_)
      ·simp [-List.getD_eq_getElem?_getD,ak,under];omega
      refine cd rfl (fun h12=>?_) (fun h12=>?_)
      ·simp at h12
      ·refine sk (rg [] rfl ?_);refine ⟨i+1,?_,?_,?_⟩
       ·omega
       ·refine em [] trivial ⟨cq,cq,cq,cq,cq,cq,tt⟩ trivial
       ·(try simp only []);first | omega | grind
     ·refine xt (sq (sq (rg [] rfl ?_)));refine bk ?_;refine WP.loop (α:=Nat) (fun i=>aK [(2,.rp 26 (aj p)),(3,.rp 26 (aj p)),(4,.bool false),(77,rowP 100 dI mD p.funcs),(78,.int p.funcs.length),(79,.int i)] []) (fun i=>i≤p.funcs.length) (fun i=>p.funcs.length - i) ?_ ?_
      ·refine ⟨0,?_,?_⟩
       ·exact Nat.zero_le _
       ·refine em [] trivial ⟨cq,cq,cq,cq,cq,cq,tt⟩ trivial
      ·rintro i hi3;refine WP.rowlen 77 rfl (fun hl3=>?_);refine sg rfl ?_;refine sq ?_;refine cd rfl (fun h16=>?_) (fun h16=>?_)
       ·have hil3:i<p.funcs.length:=by simp [-List.getD_eq_getElem?_getD]at h16;omega
        refine sk (sq (bk (sq (rg [] rfl ?_))));refine sq (drs [CG.pure (.bool true)] rfl ?_ ?_)
        ·have hq:=OO (p.funcs.getD i mD);simp only [ak,under,CG.pure]
         repeat' with_reducible refine And.intro ?_ ?_
         all_goals (try with_reducible intros)
         all_goals (first | exact trivial | exact hq | assumption | omega | (simp [-List.getD_eq_getElem?_getD];omega) | (simp;done) | trace_state)
        refine cd rfl (fun h18=>?_) (fun h18=>?_)
        ·simp at h18
        ·refine sk (rg [] rfl ?_);refine ⟨i+1,?_,?_,?_⟩
         ·omega
         ·refine em [] trivial ⟨cq,cq,cq,cq,cq,cq,tt⟩ trivial
         ·(try simp only []);first | omega | grind
       ·refine xt (sq (rg [] rfl ?_));exact WP.ret (fin1 hT (by rfl) rfl)
def rb:Nat:=140737488351232
def WC (x:yP):Prop:=x.cases.length*32≤rb
def YB (x:iL):Prop:=x.code.length*40≤rb∧x.sels.length*32≤rb ∧ ∀ s∈x.sels,WC s
def J6 (x:ay):Prop:=x.vars.length*16≤rb∧x.chans.length*8≤rb∧x.funcs.length*64≤rb ∧ ∀ f∈x.funcs,YB f
abbrev rJ (l:List ZE):AV:=rowP 116 Dq RH l
abbrev zM (l:List iL):AV:=rowP 100 dI mD l
abbrev Cj (l:List jR):AV:=rowP 120 aP qR l
abbrev O5 (l:List yP):AV:=rowP 103 fD wL l
abbrev nilA:AV := .v (.slice none 0 0)
abbrev pcO (a b c d:AV):Ob := .cells ⟨26,1,fun _=>cu 26 [a,b,c,d],0⟩
theorem Bj {α:Type} {m:Id→Option Ob} {F:Id→Nat} {t:Nat} {enc:α→AV} {d:α} {l:List α} (h:l.length=0) (hs:0<(T t).size):Conv m F T (.v (.slice none 0 0)) (rowP t enc d l):=by
 obtain rfl:=List.eq_nil_of_length_eq_zero h;exact dJ hs
theorem Q9 {m:Id→Option Ob} {F:Id→Nat} {l:List Int} (h:l.length=0):Conv m F T (.v (.slice none 0 0)) (ints false l):=by
 obtain rfl:=List.eq_nil_of_length_eq_zero h;exact dJ (by decide)
theorem zh {m:Id→Option Ob} {F:Id→Nat} {id:Id} {e n:Nat} {z g:Nat→AV} (hm:m id=some (.cells ⟨e,n,og 0 n z g,0⟩)) (hF:0+n≤F id) (hg:∀ j,j<n→eG (g j)=true):Conv m F T (.own id n 0 n none) (.row e false n g) :=
 fG hm rfl rfl (fun h=>by cases h) hF (fun q hq=>by
  have e1:og 0 n z g (0+q)=g q:=(qC (i:=0+q) (Nat.zero_le _) (by omega)).trans (by rw [Nat.zero_add,Nat.sub_zero]);exact ⟨(congrArg eG e1).trans (hg q hq),AEq.of_eq e1⟩)
abbrev RN {α:Type} (id:Id) (l:List α):AV := .own id l.length 0 l.length none
abbrev fcO (a b c d:AV):Ob := .cells ⟨100,1,fun _=>cu 100 [a,b,c,d],0⟩
theorem take_snoc {α:Type} {l:List α} {i:Nat} {x d:α} (h:i<l.length) (hx:l.getD i d=x):l.take i++[x]=l.take (i+1):=by
 rw [List.take_add_one,List.getElem?_eq_getElem h,← hx];simp [h]
theorem Ye (p:ay) (hz:J6 p):AC Tryz.prog T bn 15 [aj p] [] (aj p) []:=by
 refine aA hT Tryz.func15 rfl rfl (Nat.le_of_ble_eq_true rfl) ?_;obtain ⟨hz1,hz2,hz3,hz4⟩:=hz;unfold rb at hz1 hz2 hz3;refine sg rfl ?_;refine sq ?_;refine WP.ent (st':=aK [(1,.rp 26 (aj p)),(2,.ptr (.s 2 0) 1 0 [])] [(.s 2 0,.cells ⟨26,1,fun _=>(T 26).zero,0⟩)]) ?_ ?_
 ·refine em [(.s 1 0,1)] ⟨sF,tt⟩ ⟨rq,cq,tt⟩ ⟨obs rfl,tt⟩
 refine rg [] rfl ?_;refine sg rfl ?_;refine WP.seqJ (α:=Unit) (fun _=>aK [(1,.rp 26 (aj p)),(2,.ptr (.s 2 0) 1 0 []),(3,.ptr (.s 3 0) 1 0 [])] [(.s 2 0,.cells ⟨26,1,fun _=>(T 26).zero,0⟩),(.s 3 0,pcO (rJ p.vars) (.int p.locks) nilA nilA)]) (fun _=>True) ?_ ?_
 ·rcases Nat.eq_zero_or_pos p.vars.length with hv0 | hv0
  ·refine rgs [CG.nop] rfl ?_ ?_
   ·simp [ak,under,hv0]
   refine ⟨(),?_,?_⟩
   ·trivial
   ·refine em [] trivial ⟨cq,cq,cq,tt⟩ ⟨obs rfl,obs rfl (hg:=q0 ⟨_,rfl,fun i hi=>by match i with | 0=>exact Bj hv0 (by decide) | 1 | 2 | 3=>exact ah rfl | i+4=>exact absurd hi (by simp)⟩),tt⟩
  ·refine rgs [] rfl ?_ ?_
   ·have hbt:(T 116).bytes=16:=rfl;simp [ak,under,hbt];omega
   refine ⟨(),?_,?_⟩
   ·trivial
   ·refine em [(.s 17 0,p.vars.length)] ⟨⟨_,rfl,Nat.le_refl _⟩,tt⟩ ⟨cq,cq,cq,tt⟩ ⟨obs rfl,obs rfl (hg:=q0 ⟨_,rfl,fun i hi=>by match i with | 0=>exact zh rfl (by simp [dP,aI]) (fun j _=>rfl) | 1 | 2 | 3=>exact ah rfl | i+4=>exact absurd hi (by simp)⟩),tt⟩
 ·rintro _ h_inv;refine WP.seqJ (α:=Unit) (fun _=>aK [(1,.rp 26 (aj p)),(2,.ptr (.s 2 0) 1 0 []),(3,.ptr (.s 3 0) 1 0 [])] [(.s 2 0,.cells ⟨26,1,fun _=>(T 26).zero,0⟩),(.s 3 0,pcO (rJ p.vars) (.int p.locks) (ints false p.chans) nilA)]) (fun _=>True) ?_ ?_
  ·rcases Nat.eq_zero_or_pos p.chans.length with hc0 | hc0
   ·refine rgs [CG.nop] rfl ?_ ?_
    ·simp [ak,under,hc0]
    refine ⟨(),?_,?_⟩
    ·trivial
    ·refine em [] trivial ⟨cq,cq,cq,tt⟩ ⟨obs rfl,obs rfl (hg:=q0 ⟨_,rfl,fun i hi=>by match i with | 0 | 1=>exact ah rfl | 2=>exact Q9 hc0 | 3=>exact ah rfl | i+4=>exact absurd hi (by simp)⟩),tt⟩
   ·refine rgs [] rfl ?_ ?_
    ·have hbt:(T 3).bytes=8:=rfl;simp [ak,under,hbt];omega
    refine ⟨(),?_,?_⟩
    ·trivial
    ·refine em [(.s 23 0,p.chans.length)] ⟨⟨_,rfl,Nat.le_refl _⟩,tt⟩ ⟨cq,cq,cq,tt⟩ ⟨obs rfl,obs rfl (hg:=q0 ⟨_,rfl,fun i hi=>by match i with | 0 | 1=>exact ah rfl | 2=>exact zh rfl (by simp [dP,aI]) (fun j _=>rfl) | 3=>exact ah rfl | i+4=>exact absurd hi (by simp)⟩),tt⟩
  ·rintro _ h_inv;refine sq (sq (rg [] rfl ?_));refine bk ?_;refine WP.loop (α:=Nat) (fun i=>aK [(1,.rp 26 (aj p)),(2,.ptr (.s 2 0) 1 0 []),(3,.ptr (.s 3 0) 1 0 []),(26,zM p.funcs),(27,.int p.funcs.length),(28,.int i)] [(.s 2 0,.cells ⟨26,1,fun _=>(T 26).zero,0⟩),(.s 3 0,pcO (rJ p.vars) (.int p.locks) (ints false p.chans) (RN (.s 900 0) (p.funcs.take i))),(.s 900 0,bK 100 dI mD (p.funcs.take i))]) (fun i=>i≤p.funcs.length) (fun i=>p.funcs.length - i) ?_ ?_
   ·refine ⟨0,?_,?_⟩
    ·exact Nat.zero_le _
    ·refine em [] trivial ⟨cq,cq,cq,cq,cq,cq,tt⟩ ⟨obs rfl,obs rfl (hg:=q0 ⟨_,rfl,fun i hi=>by match i with | 0 | 1 | 2=>exact ah rfl | 3=>exact eU | i+4=>exact absurd hi (by simp)⟩),⟨fun _ _=>rfl,.inr ⟨rfl,100,_,rfl,by decide⟩⟩,tt⟩
   ·rintro i hi;refine sg rfl ?_;refine sq ?_;refine cd rfl (fun h6=>?_) (fun h6=>?_)
    ·have hil:i<p.funcs.length:=by simp [-List.getD_eq_getElem?_getD]at h6;omega
     obtain ⟨f,hf⟩:∃ f,p.funcs.getD i mD=f:=⟨_,rfl⟩;have hfm:f∈p.funcs:=by rw [← hf,List.getD_eq_getElem?_getD,List.getElem?_eq_getElem hil];exact List.getElem_mem _
     obtain ⟨hf1,hf2,hf3⟩:=hz4 f hfm;unfold rb at hf1 hf2;have hlt:(p.funcs.take i).length=i:=by rw [List.length_take];omega
     refine sk (sq (bk (sq (rgs [] rfl ?_ ?_))))
     ·simp [-List.getD_eq_getElem?_getD,ak,under];omega
     refine sg rfl ?_;refine sq ?_;refine WP.ent (st':=aK [(1,.rp 26 (aj p)),(2,.ptr (.s 2 0) 1 0 []),(3,.ptr (.s 3 0) 1 0 []),(5,.rp 100 (dI f)),(6,.ptr (.s 6 0) 1 0 []),(26,zM p.funcs),(27,.int p.funcs.length),(28,.int i)] [(.s 2 0,.cells ⟨26,1,fun _=>(T 26).zero,0⟩),(.s 3 0,pcO (rJ p.vars) (.int p.locks) (ints false p.chans) (RN (.s 900 0) (p.funcs.take i))),(.s 900 0,bK 100 dI mD (p.funcs.take i)),(.s 6 0,.cells ⟨100,1,fun _=>(T 100).zero,0⟩)]) ?_ ?_
     ·refine em [(.s 5 0,1)] ⟨sF,tt⟩ ⟨cq,cq,cq,⟨rfl,_,rfl,aZ rfl rfl (by decide) rfl (by rw [← hf];rfl) rfl⟩,cq,cq,cq,cq,tt⟩ ⟨obs rfl,obs rfl,obs rfl,obs rfl,tt⟩
     refine rg [] rfl ?_;refine sg rfl ?_;refine WP.seqJ (α:=Unit) (fun _=>aK [(1,.rp 26 (aj p)),(2,.ptr (.s 2 0) 1 0 []),(3,.ptr (.s 3 0) 1 0 []),(5,.rp 100 (dI f)),(6,.ptr (.s 6 0) 1 0 []),(26,zM p.funcs),(27,.int p.funcs.length),(28,.int i)] [(.s 2 0,.cells ⟨26,1,fun _=>(T 26).zero,0⟩),(.s 3 0,pcO (rJ p.vars) (.int p.locks) (ints false p.chans) (RN (.s 900 0) (p.funcs.take i))),(.s 900 0,bK 100 dI mD (p.funcs.take i)),(.s 6 0,fcO (.int f.params) (.int f.regs) (Cj f.code) nilA)]) (fun _=>True) ?_ ?_
     ·rcases Nat.eq_zero_or_pos f.code.length with hk0 | hk0
      ·refine rgs [CG.nop] rfl ?_ ?_
       ·simp [ak,under,hk0]
       refine ⟨(),?_,?_⟩
       ·trivial
       ·refine em [] trivial ⟨cq,cq,cq,cq,cq,cq,cq,cq,tt⟩ ⟨obs rfl,obs rfl,obs rfl,obs rfl (hg:=q0 ⟨_,rfl,fun i hi=>by match i with | 0 | 1=>exact ah rfl | 2=>exact Bj hk0 (by decide) | 3=>exact ah rfl | i+4=>exact absurd hi (by simp)⟩),tt⟩
      ·refine rgs [] rfl ?_ ?_
       ·have hbt:(T 120).bytes=40:=rfl;simp [ak,under,hbt];omega
       refine ⟨(),?_,?_⟩
       ·trivial
       ·refine em [(.s 42 0,f.code.length)] ⟨⟨_,rfl,Nat.le_refl _⟩,tt⟩ ⟨cq,cq,cq,cq,cq,cq,cq,cq,tt⟩ ⟨obs rfl,obs rfl,obs rfl,obs rfl (hg:=q0 ⟨_,rfl,fun i hi=>by match i with | 0 | 1=>exact ah rfl | 2=>exact zh rfl (by simp [dP,aI]) (fun j _=>rfl) | 3=>exact ah rfl | i+4=>exact absurd hi (by simp)⟩),tt⟩
     ·rintro _ h_inv;refine sq (sq (rg [] rfl ?_));refine bk ?_;refine WP.loop (α:=Nat) (fun j=>aK [(1,.rp 26 (aj p)),(2,.ptr (.s 2 0) 1 0 []),(3,.ptr (.s 3 0) 1 0 []),(5,.rp 100 (dI f)),(6,.ptr (.s 6 0) 1 0 []),(26,zM p.funcs),(27,.int p.funcs.length),(28,.int i),(45,O5 f.sels),(46,.int f.sels.length),(47,.int j)] [(.s 2 0,.cells ⟨26,1,fun _=>(T 26).zero,0⟩),(.s 3 0,pcO (rJ p.vars) (.int p.locks) (ints false p.chans) (RN (.s 900 0) (p.funcs.take i))),(.s 900 0,bK 100 dI mD (p.funcs.take i)),(.s 6 0,fcO (.int f.params) (.int f.regs) (Cj f.code) (RN (.s 901 0) (f.sels.take j))),(.s 901 0,bK 103 fD wL (f.sels.take j))]) (fun j=>j≤f.sels.length) (fun j=>f.sels.length - j) ?_ ?_
      ·refine ⟨0,?_,?_⟩
       ·exact Nat.zero_le _
       ·refine em [] trivial ⟨cq,cq,cq,cq,cq,cq,cq,cq,cq,cq,cq,tt⟩ ⟨obs rfl,obs rfl,obs rfl,obs rfl (hg:=q0 ⟨_,rfl,fun i hi=>by match i with | 0 | 1 | 2=>exact ah rfl | 3=>exact eU | i+4=>exact absurd hi (by simp)⟩),⟨fun _ _=>rfl,.inr ⟨rfl,103,_,rfl,by decide⟩⟩,tt⟩
      ·rintro j hj;refine sg rfl ?_;refine sq ?_;refine cd rfl (fun h13=>?_) (fun h13=>?_)
       ·have hjl:j<f.sels.length:=by simp [-List.getD_eq_getElem?_getD]at h13;omega
        obtain ⟨q,hq⟩:∃ q,f.sels.getD j wL=q:=⟨_,rfl⟩;have hqm:q∈f.sels:=by rw [← hq,List.getD_eq_getElem?_getD,List.getElem?_eq_getElem hjl];exact List.getElem_mem _
        have hq1:=hf3 q hqm;unfold WC rb at hq1;have hjt:(f.sels.take j).length=j:=by rw [List.length_take];omega
        refine sk (sq (bk (sq (rgs [] rfl ?_ ?_))))
        ·simp [-List.getD_eq_getElem?_getD,ak,under];omega
        refine sg rfl ?_;refine sq ?_;refine WP.ent (st':=aK [(1,.rp 26 (aj p)),(2,.ptr (.s 2 0) 1 0 []),(3,.ptr (.s 3 0) 1 0 []),(8,.rp 103 (fD q)),(9,.ptr (.s 9 0) 1 0 []),(5,.rp 100 (dI f)),(6,.ptr (.s 6 0) 1 0 []),(26,zM p.funcs),(27,.int p.funcs.length),(28,.int i),(45,O5 f.sels),(46,.int f.sels.length),(47,.int j)] [(.s 2 0,.cells ⟨26,1,fun _=>(T 26).zero,0⟩),(.s 3 0,pcO (rJ p.vars) (.int p.locks) (ints false p.chans) (RN (.s 900 0) (p.funcs.take i))),(.s 900 0,bK 100 dI mD (p.funcs.take i)),(.s 6 0,fcO (.int f.params) (.int f.regs) (Cj f.code) (RN (.s 901 0) (f.sels.take j))),(.s 901 0,bK 103 fD wL (f.sels.take j)),(.s 9 0,.cells ⟨103,1,fun _=>(T 103).zero,0⟩)]) ?_ ?_
        ·refine em [(.s 8 0,1)] ⟨sF,tt⟩ ⟨cq,cq,cq,⟨rfl,_,rfl,aZ rfl rfl (by decide) rfl (by rw [← hq];rfl) rfl⟩,cq,cq,cq,cq,cq,cq,cq,cq,cq,tt⟩ ⟨obs rfl,obs rfl,obs rfl,obs rfl,obs rfl,obs rfl,tt⟩
        refine rg [] rfl ?_;refine WP.seqJ (α:=Unit) (fun _=>aK [(1,.rp 26 (aj p)),(2,.ptr (.s 2 0) 1 0 []),(3,.ptr (.s 3 0) 1 0 []),(9,.ptr (.s 9 0) 1 0 []),(5,.rp 100 (dI f)),(6,.ptr (.s 6 0) 1 0 []),(26,zM p.funcs),(27,.int p.funcs.length),(28,.int i),(45,O5 f.sels),(46,.int f.sels.length),(47,.int j)] [(.s 2 0,.cells ⟨26,1,fun _=>(T 26).zero,0⟩),(.s 3 0,pcO (rJ p.vars) (.int p.locks) (ints false p.chans) (RN (.s 900 0) (p.funcs.take i))),(.s 900 0,bK 100 dI mD (p.funcs.take i)),(.s 6 0,fcO (.int f.params) (.int f.regs) (Cj f.code) (RN (.s 901 0) (f.sels.take j))),(.s 901 0,bK 103 fD wL (f.sels.take j)),(.s 9 0,.cells ⟨103,1,fun _=>fD q,0⟩)]) (fun _=>True) ?_ ?_
        ·rcases Nat.eq_zero_or_pos q.cases.length with hs0 | hs0
         ·refine rgs [CG.nop] rfl ?_ ?_
          ·simp [ak,under,hs0]
          refine ⟨(),?_,?_⟩
          ·trivial
          ·refine em [] trivial ⟨cq,cq,cq,cq,cq,cq,cq,cq,cq,cq,cq,cq,tt⟩ ⟨obs rfl,obs rfl,obs rfl,obs rfl,obs rfl,obs rfl (hg:=q0 ⟨_,rfl,fun i hi=>by match i with | 0=>exact Bj hs0 (by decide) | 1=>exact ah rfl | i+2=>exact absurd hi (by simp)⟩),tt⟩
         ·refine rgs [] rfl ?_ ?_
          ·have hbt:(T 215).bytes=32:=rfl;simp [ak,under,hbt];omega
          refine ⟨(),?_,?_⟩
          ·trivial
          ·refine em [(.s 58 0,q.cases.length)] ⟨⟨_,rfl,Nat.le_refl _⟩,tt⟩ ⟨cq,cq,cq,cq,cq,cq,cq,cq,cq,cq,cq,cq,tt⟩ ⟨obs rfl,obs rfl,obs rfl,obs rfl,obs rfl,obs rfl (hg:=q0 ⟨_,rfl,fun i hi=>by match i with | 0=>exact zh rfl (by simp [dP,aI]) (fun j _=>rfl) | 1=>exact ah rfl | i+2=>exact absurd hi (by simp)⟩),tt⟩
        ·rintro _ h_inv;refine rgs [] rfl ?_ ?_
         ·have hbt:(T 103).bytes=32:=rfl;simp [-List.getD_eq_getElem?_getD,ak,under,hbt];omega
         refine rg [] rfl ?_;have e1:f.sels.take j++[q]=f.sels.take (j+1):=take_snoc hjl hq
         refine ⟨j+1,?_,?_,?_⟩
         ·omega
         ·rw [← e1];refine em [] trivial ⟨cq,cq,cq,cq,cq,cq,cq,cq,cq,cq,cq,tt⟩ ⟨obs rfl,obs rfl,obs rfl,obs rfl (hg:=q0 (ah (Eq.trans (b:=cu 100 [.int f.params,.int f.regs,Cj f.code,.own (.s 901 0) ((f.sels.take j).length+1) 0 ((f.sels.take j).length+1) none]) (bg fun q=>by match q with | 0 | 1 | 2 | 3 | q+4=>rfl) (congrArg (fun n=>cu 100 [.int f.params,.int f.regs,Cj f.code,.own (.s 901 0) n 0 n none]) (bH (f.sels.take j) q).symm)))),bU (fun a=>rfl) rfl rfl (by rw [bH]) rfl rfl (JO (z:=(T 103).zero) rfl rfl (fun q hq=>rfl)),tt⟩
         ·(try simp only []);first | omega | grind
       ·have hjl:j=f.sels.length:=by simp [-List.getD_eq_getElem?_getD]at h13;omega
        subst hjl;rw [List.take_length];refine xt ?_;refine WP.ent (st':=aK [(1,.rp 26 (aj p)),(2,.ptr (.s 2 0) 1 0 []),(3,.ptr (.s 3 0) 1 0 []),(6,.ptr (.s 6 0) 1 0 []),(26,zM p.funcs),(27,.int p.funcs.length),(28,.int i)] [(.s 2 0,.cells ⟨26,1,fun _=>(T 26).zero,0⟩),(.s 3 0,pcO (rJ p.vars) (.int p.locks) (ints false p.chans) (RN (.s 900 0) (p.funcs.take i))),(.s 900 0,bK 100 dI mD (p.funcs.take i)),(.s 6 0,.cells ⟨100,1,fun _=>dI f,0⟩)]) ?_ ?_
        ·refine em [(.s 901 0,f.sels.length)] ⟨⟨_,rfl,Nat.le_refl _⟩,tt⟩ ⟨cq,cq,cq,cq,cq,cq,cq,tt⟩ ⟨obs rfl,obs rfl,obs rfl,obs rfl (hg:=q0 ⟨_,rfl,fun i hi=>by match i with | 0 | 1 | 2=>exact ah rfl | 3=>exact fG rfl rfl rfl (fun h=>by cases h) (by simp [dP,aI]) (fun q hq=>by rw [Nat.zero_add];exact ⟨rfl,AEq.refl _⟩) | i+4=>exact absurd hi (by simp)⟩),tt⟩
        refine rgs [] rfl ?_ ?_
        ·have hbt:(T 100).bytes=64:=rfl;simp [-List.getD_eq_getElem?_getD,ak,under,hbt];omega
        refine rg [] rfl ?_;have e1:p.funcs.take i++[f]=p.funcs.take (i+1):=take_snoc hil hf
        refine ⟨i+1,?_,?_,?_⟩
        ·omega
        ·rw [← e1];refine em [] trivial ⟨cq,cq,cq,cq,cq,cq,tt⟩ ⟨obs rfl,obs rfl (hg:=q0 (ah (Eq.trans (b:=cu 26 [rJ p.vars,.int p.locks,ints false p.chans,.own (.s 900 0) ((p.funcs.take i).length+1) 0 ((p.funcs.take i).length+1) none]) (bg fun q=>by match q with | 0 | 1 | 2 | 3 | q+4=>rfl) (congrArg (fun n=>cu 26 [rJ p.vars,.int p.locks,ints false p.chans,.own (.s 900 0) n 0 n none]) (bH (p.funcs.take i) f).symm)))),bU (fun a=>rfl) rfl rfl (by rw [bH]) rfl rfl (JO (z:=(T 100).zero) rfl rfl (fun q hq=>rfl)),tt⟩
        ·(try simp only []);first | omega | grind
    ·have hil:i=p.funcs.length:=by simp [-List.getD_eq_getElem?_getD]at h6;omega
     subst hil;rw [List.take_length];refine xt (sq ?_);refine WP.ent (st':=aK [(2,.ptr (.s 2 0) 1 0 []),(3,.ptr (.s 3 0) 1 0 [])] [(.s 2 0,.cells ⟨26,1,fun _=>(T 26).zero,0⟩),(.s 3 0,.cells ⟨26,1,fun _=>aj p,0⟩)]) ?_ ?_
     ·refine em [(.s 900 0,p.funcs.length)] ⟨⟨_,rfl,Nat.le_refl _⟩,tt⟩ ⟨cq,cq,tt⟩ ⟨obs rfl,obs rfl (hg:=q0 ⟨_,rfl,fun i hi=>by match i with | 0 | 1 | 2=>exact ah rfl | 3=>exact fG rfl rfl rfl (fun h=>by cases h) (by simp [dP,aI]) (fun q hq=>by rw [Nat.zero_add];exact ⟨rfl,AEq.refl _⟩) | i+4=>exact absurd hi (by simp)⟩),tt⟩
     refine rg [] rfl ?_;exact WP.ret (aO hT rfl rfl rfl rfl rfl (ah rfl) rfl rfl rfl)
theorem Sj (p:ay) (b0:iq) (hz:J6 p) (hw:FT p):AC Tryz.prog T bn 3 [aj p,dD b0] [] (.bool true) []:=by
 refine aA hT Tryz.func3 rfl rfl (Nat.le_of_ble_eq_true rfl) ?_;refine sg rfl ?_;refine WP.seqJ (α:=iq) (fun b=>aK [(2,.rp 26 (aj p)),(3,.rp 28 (dD b)),(4,.bool false)] []) (fun b=>True) ?_ ?_
 ·refine sq ?_;refine WP.ent (st':=aK [(2,.rp 26 (aj p)),(4,.bool false),(3,.ptr (.s 3 0) 1 0 [])] [(.s 3 0,.cells ⟨28,1,fun _=>dD b0,0⟩)]) (em [(.s 2 0,1)] ⟨sF,tt⟩ ⟨rq,cq,cq,tt⟩ ⟨obs rfl,tt⟩) ?_;refine rg [] rfl ?_;refine cd rfl (fun h1=>?_) (fun h1=>?_)
  ·refine rg [] rfl ?_;refine ⟨{ b0 with runs:=300},?_,?_⟩
   ·trivial
   ·refine em [(.s 3 0,1)] ⟨sF,tt⟩ ⟨cq,⟨rfl,_,rfl,aZ rfl rfl (by decide) rfl (PI b0 300) rfl⟩,cq,tt⟩ trivial
  ·refine sk ?_;refine ⟨b0,?_,?_⟩
   ·trivial
   ·refine em [(.s 3 0,1)] ⟨sF,tt⟩ ⟨cq,rq,cq,tt⟩ trivial
 ·rintro b h_inv;refine sq (rgs [CG.pure (aj p)] rfl ?_ ?_)
  ·have hq:=Ye p hz;exact au
  refine sq ?_;refine WP.ent (st':=aK [(2,.rp 26 (aj p)),(3,.rp 28 (dD b)),(4,.bool false),(5,.rp 26 (aj p))] []) ?_ ?_
  ·refine em [(.s 5 0,1)] ⟨sF,tt⟩ ⟨cq,cq,cq,rq,tt⟩ trivial
  refine rgs [CG.pure (.tup [iJ (allT p b),.int (gZ p 0 b)])] rfl ?_ ?_
  ·have hq:=JQ p b rfl;exact au
  refine sq ?_;refine WP.ent (st':=aK [(2,.rp 26 (aj p)),(3,.rp 28 (dD b)),(4,.bool false),(5,.rp 26 (aj p)),(6,.rp 32 (iJ (allT p b))),(7,.int (gZ p 0 b))] []) ?_ ?_
  ·refine em [(.s 6 0,1)] ⟨sF,tt⟩ ⟨cq,cq,cq,cq,rq,cq,tt⟩ trivial
  refine rgs [CG.pure (.tup [FM (kX p b).runs (qK p b),.int (gZ p 0 b)])] rfl ?_ ?_
  ·have hq:=Xc p b hw;exact au
  refine sq ?_;refine WP.ent (st':=aK [(2,.rp 26 (aj p)),(3,.rp 28 (dD b)),(4,.bool false),(5,.rp 26 (aj p)),(6,.rp 32 (iJ (allT p b))),(7,.int (gZ p 0 b)),(8,.rp 32 (iJ (allT p b))),(9,.int (gZ p 0 b))] []) ?_ ?_
  ·refine em [(.s 8 0,1)] ⟨sF,tt⟩ ⟨cq,cq,cq,cq,cq,cq,rq,cq,tt⟩ trivial
  refine rgs [CG.pure (.bool (BZ (allT p b) (allT p b))),CG.pure (.bool true),CG.pure (.bool true)] rfl ?_ ?_
  ·have hq1:=OQ (allT p b) (allT p b);have hq2:=IX p
   have hq3:=SG;exact au
  exact WP.ret (fin1 hT (by rfl) (by simp [BZ]))
end Go.Ab
