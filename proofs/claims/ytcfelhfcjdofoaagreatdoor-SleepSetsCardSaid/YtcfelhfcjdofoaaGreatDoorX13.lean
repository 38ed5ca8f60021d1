/- Part 14 of a proof of a statement about the given program: an abstract machine over the model, proved sound, and contracts of the functions that the statement reaches; the last part proves the statement, for every input, with no condition. -/
import Derived.Test.YtcfelhfcjdofoaaGreatDoorX12
import Derived.RangeFuncSeq
import Derived.Shelf.Abstract
set_option autoImplicit false
set_option linter.unusedSimpArgs false
set_option linter.unusedVariables false
namespace Go.Ab
open Go.ChangeShapes Go.WideShapes Go.ChangeAt Go.RowKit
section
variable {P:Program} {T:Nat->TI} {N:Nat} {H:Type} {enc:TypeId×Value->H}
theorem zV (hl:laidOutB P=true) {W f:World} (hb:Below W.heap.size W f):∀ {ts:List TypeId} {vs:List Value} {c:List (DataW H)} {a:List MemPlace},(ts.all λt=>P.readableRec t&&decide (t<P.types.size))=true->DataW.TrodAll enc P W 0 (λ_=>true) true ts vs c a->(∀ y∈a,y.block<W.heap.size) ->
 DataW.TrodAll enc P f 0 (λb=>decide (b<W.heap.size)) true ts vs c a
 | [],[],[],a,_,h,_=>h
 | [],_::_,_,_,_,h,_=>h.elim
 | [],[],_::_,_,_,h,_=>h.elim
 | _::_,[],_,_,_,h,_=>h.elim
 | _::_,_::_,[],_,_,h,_=>h.elim
 | t::ts,v::vs,d::c,a,ht,h,hlt=>by obtain ⟨p,q,g,i,rfl⟩:=h;simp only [List.all_cons,abh,ab8]at ht;exact ⟨p,q,Below.trod hl ht.1.1 ht.1.2 g hb (λy e=>hlt y (adX _ e)),zV hl hb ht.2 i (λy e=>hlt y (ad7 _ e)),rfl⟩
theorem uO {W:World} {base:Nat} {sp:Nat->Bool} {held:Bool}:∀ {ts:List TypeId} {vs:List Value} {a:List (DataW H)} {b:List MemPlace},DataW.TrodAll enc P W base sp held ts vs a b->vs.length=ts.length/\a.length=ts.length
 | [],[],[],b,h=>⟨rfl,rfl⟩
 | [],_::_,_,_,h=>h.elim
 | [],[],_::_,_,h=>h.elim
 | _::_,[],_,_,h=>h.elim
 | _::_,_::_,[],_,h=>h.elim
 | t::ts,v::vs,d::a,b,h=>by obtain ⟨p,q,e,c,rfl⟩:=h;have:=uO c;simp [this.1,this.2]
theorem Vd (hl:laidOutB P=true) {f:FuncId} {fn:Func} {tb:TypeId} {s:ChangeSpec} {W:World} {args:Array Value} {m gs:List (DataW H)} {before:List MemPlace}
 (z:(fn.params.toList.all λt=>P.readableRec t&&decide (t<P.types.size))=true) (r:fn.resultTypes.toList=[tb]) (hb:P.underlying tb=some .bool) (l:s.vars=[])
 (c:∀ m:List (DataW H),m.length=fn.params.toList.length->s.fn H m={ results:=[.lit (.bool true)],args:=m})
 (a3:∀ (b o n:Nat),(T b).glb[o]? = some n->W.cell? ⟨b,o,none⟩=some (.int .u8 n)) (hW:DataW.Whole enc P fn.params.toList s.vars false W args.toList m gs before) {u:List AV} (a2:AC P T N f u [] (.bool true) []) (hlen:u.length=args.toList.length)
 (x:∀ (i:Nat) (a:AV) (v:Value),u[i]? = some a->args.toList[i]? = some v->fQ T N (oQ W) gU a v) :
 Calls P f args W λe W' => ∃ v,e = .returned v/\s.post enc P fn false true false false W args v W':=by
 have g:=a2.2 (oQ W) gU W args.toList hlen.symm (λi a v h1 h2=>x i a v h1 h2) (sS (λb o y h=>h) a3);rw [Array.toArray_toList]at g;refine g.mono ?_;rintro e W' ⟨v,I',ρ',rfl,j,hv,_⟩;have d:Below W.heap.size W W':=⟨j.os,j.tape.1,j.output,j.size,λk hk=>j.frame k hk (λid p hp=>by simp [gU]at hp)⟩
 have w:=hW;obtain ⟨p,q,hA,hV,rfl,_,_⟩:=hW;rw [l]at hV;obtain ⟨rfl,rfl⟩:=trodVars_none hV;have a4:∀ y∈p,y.block<W.heap.size:=λy hy=>w.lt y (adX _ hy)
 have a1:=zV hl d z hA a4;obtain ⟨rfl,_⟩:=(hv.rep1 (λ_=>by simp)).v;have hsz:fn.resultTypes.size=1:=by
  have:=acY List.length r;simpa using this
 refine ⟨_,rfl,m,[],p++[],[],p,[],w,?_,?_,?_,d.frame _,λh=>by cases h⟩
 ·rw [adC,c m (uO hA).2,r,hsz];exact trodAll_mk1 (shut_bool hb true)
 ·rw [adC,c m (uO hA).2];exact a1
 ·rw [adC,c m (uO hA).2,l];rfl
end
section
variable {P:Program} {T:Nat->TI} {N:Nat}
theorem EF {cs:List Value} {s n:Nat} (h:cs.length=n*s):∀ k,k<=n->(List.range k).flatMap (λi=>(cs.drop (i*s)).take s)=cs.take (k*s)
 | 0,_=>by simp
 | k+1,hk=>by rw [ad4,adS,EF h k (by omega),adH,List.take_add];simp
theorem Dec.array (hT:jf P T N) {t n e:Nat} {α:Type} {enc:α->AV} {Q:α->Prop} (o:α) (hk:(T t).kind = .array n e) (hd:Dec P T N e enc Q):Dec P T N t (λl:List α => .agg t n (λi=>enc (l.getD i o))) (λl=>l.length=n /\ ∀ a∈l,Q a):=by
 intro H x w fuel cs d ps m;have k:=hT.lt (t:=t) (by rw [hk];simp);obtain ⟨dd,r,j,z⟩:=hT.und t k;rw [hk]at j;cases dd <;> simp only [kindOf,reduceCtorEq,TK.array.injEq]at j
 rename_i b c;obtain ⟨rfl,rfl⟩:=j;obtain ⟨he,hsz⟩:=hT.array t b c hk;cases fuel with
 | zero=>simp [DataW.trod]at m
 | succ fuel =>
  unfold DataW.trod at m
  rw [r]at m
  simp only [aem,ac6]at m
  obtain ⟨hlen,xs,s,_⟩:=m
  obtain ⟨_,p⟩:=mapM_at s
  rw [hT.cellsOf k,hsz]at hlen
  have q:=hT.cellsOf he
  have hex:∀ i,∃ a:α,i<b->Q a/\Rep T N (oQ w) gU (enc a) ((cs.drop (i*(T c).size)).take (T c).size)/\fit T c (enc a)=true:=by intro i;by_cases hi:i<b;{obtain ⟨y,_,u⟩:=p i i (by simp [hi]);rw [q]at u;obtain ⟨a,q1,q2,q3⟩:=hd H x w fuel _ y.1 y.2 u;exact ⟨a,λ_=>⟨q1,q2,q3⟩⟩};exact ⟨o,λh=>absurd h hi⟩
  have f:=λi=>adk (hex i)
  generalize hA:(λi=>Classical.choose (hex i))=A at f
  have g:∀ i,Classical.choose (hex i)=A i:=λi=>congrFun hA i
  have hg:∀ i,i<b->((List.range b).map A).getD i o=A i:=λi hi=>by simp [hi]
  refine ⟨(List.range b).map A,⟨by simp,λa v=>?_⟩,?_,by simp [fit,hk,TK.isAgg]⟩
  ·simp only [List.mem_map,adB]at v;obtain ⟨i,hi,rfl⟩:=v;have:=(f i hi).1;rwa [g]at this
  ·have:=Rep.array (T:=T) (N:=N) (I:=oQ w) (ρ:=gU) (t:=t) (n:=b) (get:=λi=>enc (((List.range b).map A).getD i o)) c (λi=>(cs.drop (i*(T c).size)).take (T c).size) hk k
    (λi hi=>by rw [hg i hi,<- g];exact (f i hi).2.1)
    (λi hi=>by rw [hg i hi,<- g];exact (f i hi).2.2)
    (
     λi hi=>by
     rw [adh,aeM,hlen]
     have:(i+1)*(T c).size<=b*(T c).size:=abZ _ hi
     rw [adH]at this
     omega)
   rw [EF hlen b (aa4 _),<- hlen,adJ]at this
   exact this
end
mutual
def PZ (f:Id->Bool):AV->Bool
 | .v _=>true
 | .agg _ n get=>(List.range n).all λi=>PZ f (get i)
 | .tup vs=>QF f vs
 | .row .. => true
 | .own id _ _ _ _=>f id
 | .arr id _ _ _ _ _ _=>f id
 | .ptr id _ _ _=>f id
 | .rp .. => true
 | .clo _ caps=>QF f caps
 | .mp id=>f id
def QF (f:Id->Bool):List AV->Bool
 | []=>true
 | x::r=>PZ f x&&QF f r
end
theorem KR (f:Id->Bool):∀ l,QF f l=l.all (PZ f)
 | []=>rfl
 | x::r=>by simp [QF,KR f r]
def acs (f:Id->Bool):Ob->Prop
 | .cells B => ∀ i,i<B.n->PZ f (B.get i)=true
 | .map es => ∀ p∈es,PZ f p.1=true/\PZ f p.2=true
section
variable {P:Program} {T:Nat->TI} {N:Nat}
theorem Rep.renP {I:fG} {ρ:Pl} {x:AV} {cs:List Value} (h:Rep T N I ρ x cs):∀ {ρ':Pl} {f:Id->Bool} {d:Id->Id},(∀ id,f id=true->ρ' (d id)=ρ id)->PZ f x=true->Rep T N I ρ' (Ab.ren d x) cs:=by
 induction h with| v h=>intro _ _ _ _ _;exact .v h| struct fs segs hk hn ht h hf hl g=>intro ρ' f d a hi;simp only [PZ,adl,adB]at hi;simp only [Ab.ren];exact .struct fs segs hk hn ht (λi u k=>g i u k a (hi i (by rw [<- hn];exact (List.getElem?_eq_some_iff.1 k).1))) (λi u k=>by rw [xX];exact hf i u k) hl| array e segs hk ht h hf hl g=>intro ρ' f d a hi;simp only [PZ,adl,adB]at hi;simp only [Ab.ren];exact .array e segs hk ht (λi j=>g i j a (hi i j)) (λi j=>by rw [xX];exact hf i j) hl| row b off cap segs he hc hm hfull h hf hl hI g=>intro _ _ _ _ _;exact .row b off cap segs he hc hm hfull h hf hl hI| row0 he=>intro _ _ _ _ _;exact .row0 he| rp b off seg ht h hf hl hI=>intro _ _ _ _ _;exact .rp b off seg ht h hf hl hI| own p hp hn hx1 hx=>intro ρ' f d a hi;exact .own p (by rw [a _ hi];exact hp) hn hx1 hx| own0=>intro _ _ _ _ _;exact .own0| arr p hp hn hx1 hx=>intro ρ' f d a hi;exact .arr p (by rw [a _ hi];exact hp) hn hx1 hx| ptr p hp hn hx1 hx=>intro ρ' f d a hi;exact .ptr p (by rw [a _ hi];exact hp) hn hx1 hx| clo ys hl h g=>intro ρ' f d a hi;simp only [PZ,KR,adl]at hi;simp only [Ab.ren,BM];refine .clo ys (by simpa using hl) (λi c hc=>?_);simp only [ady,ac6]at hc;obtain ⟨l,m,rfl⟩:=hc;exact g i l m a (hi l (acX m))| mp p hp hx1 hx=>intro ρ' f d a hi;exact .mp p (by rw [a _ hi];exact hp) hx1 hx
theorem dQ.renP {I:fG} {ρ:Pl} {x:AV} {y:Value} (h:dQ T N I ρ x y) {ρ':Pl} {f:Id->Bool} {b:Id->Id} (a:∀ id,f id=true->ρ' (b id)=ρ id) (hi:PZ f x=true):dQ T N I ρ' (Ab.ren b x) y:=by
 obtain ⟨cs,c,d⟩:=h;exact ⟨cs,c.renP a hi,by rw [Jr];exact d⟩
theorem fQ.renP {I:fG} {ρ:Pl} {x:AV} {y:Value} (h:fQ T N I ρ x y) {ρ':Pl} {f:Id->Bool} {e:Id->Id} (a:∀ id,f id=true->ρ' (e id)=ρ id) (hi:PZ f x=true):fQ T N I ρ' (Ab.ren e x) y:=by
 cases h with| one h=>exact .one (h.renP a hi)| @tup vs ys hl h=>simp only [PZ,KR,adl]at hi;simp only [Ab.ren,BM];refine .tup ys (by simpa using hl) (λi c hc=>?_);simp only [ady,ac6]at hc;obtain ⟨b,d,rfl⟩:=hc;exact (h i b d).renP a (hi b (acX d))
def Vq (t:Nat->Option AV) (M:Id->Option Ob):St:=⟨λk=>(t k).map λx=>(.always,x),M⟩
theorem ZY (ts:List (Nat×AV)) (ms:List (Id×Ob)):aN ts ms=Vq (λk=>oz k ts) (λid=>nO id ms):=rfl
open Classical in
noncomputable def Ey (f:Id->Bool) (b:Id->Id) (ρ:Pl):Pl:=λa=>if h:∃ id,f id=true/\b id=a then ρ (Classical.choose h)else none
theorem XL {f:Id->Bool} {c:Id->Id} {ρ:Pl} (d:∀ a b,f a=true->f b=true->c a=c b->a=b) {id:Id} (h:f id=true):Ey f c ρ (c id)=ρ id:=by
 have hex:∃ e,f e=true/\c e=c id:=⟨id,h,rfl⟩;unfold Ey;rw [dif_pos hex];have:=adk hex;rw [d _ _ this.1 h this.2]
theorem qQ {f:Id->Bool} {b:Id->Id} {ρ:Pl} {a:Id} {p:Place} (h:Ey f b ρ a=some p):∃ id,f id=true/\b id=a/\ρ id=some p:=by
 unfold Ey at h;split at h
 ·rename_i hex;exact ⟨_,(adk hex).1,(adk hex).2,h⟩
 cases h
def acS (T:Nat->TI) (st:St) (F:Id->Nat) (f:Id->Bool) (c:Id->Id) (M:Id->Option Ob) (a:Id):Prop :=
 (∃ id o b,f id=true/\c id=a/\st.m id=some o/\ObC st.m F T (F id) o b/\acs f b/\M a=some (gq c b)) \/
 ((∀ id,f id=true->c id=a->st.m id=none)/\(M a=none \/ ∃ e get,M a=some (.cells ⟨e,0,get,0⟩)/\0<(T e).size))
def acR (T:Nat->TI) (st:St) (F:Id->Nat) (f:Id->Bool) (a:Id->Id) (k:Nat) (x':AV):Prop :=
 ∃ x y,st.t k=some (.always,x)/\Conv st.m F T x y/\PZ f y=true/\x'=ren a y
theorem aaw (hT:jf P T N) {e:Entry} {st:St} (F:Id->Nat) (f:Id->Bool) (σ:Id->Id) {t:Nat->Option AV} {M:Id->Option Ob} (hF:∀ id B,st.m id=some (.cells B)->F id<=B.n)
 (d0:∀ a b,f a=true->f b=true->σ a=σ b->a=b) (ht:∀ k x',t k=some x'->acR T st F f σ k x') (hm:∀ r,acS T st F f σ M r) (hb:∀ j,j<e.nb->f (.b j)=true/\σ (.b j) = .b j)
 {I:fG} {ρ:Pl} {a:Act} {w:World} (hs:gy T N e I ρ st a w):∃ I' ρ',gy T N e I' ρ' (Vq t M) a w:=by
 have hw:=hs.wr;have f1:∀ {b o:Nat},(∃ id q B,ρ id=some q/\st.m id=some (.cells B)/\q.b=b/\o<F id*(T B.ty).size) -> ∃ id q B cs,ρ id=some q/\st.m id=some (.cells B)/\q.b=b/\o<F id*(T B.ty).size/\w.heap[b]? = some (.cells cs B.ty (0,0))/\o<cs.size/\w.cell? ⟨b,o,none⟩=cs[o]? := by
  rintro b o ⟨id,q,B,s,g,rfl,h4⟩;obtain ⟨q',cs,c1,c2,c3,c4,c5,c6,c7,c8,c9,f6⟩:=hw.cellsAt g s;rw [s]at c1;cases c1;have:F id*(T B.ty).size<=B.n*(T B.ty).size:=abZ _ (hF _ _ g)
  exact ⟨id,q,B,cs,s,g,rfl,h4,c5,by omega,by simp [World.cell?,c5]⟩
 have hI:iJ I (yH T I ρ st.m w F):=by
  intro b o y h;unfold yH;split
  ·exact hw.imm b o y h
  ·exact h
 have hS:=LH hT hw hI (F:=F) (λid B q cs s g z=>⟨hF _ _ s,λj hj=>by
  unfold yH;rw [aaW ⟨id,q,B,g,s,rfl,hj⟩];simp [World.cell?,z]⟩)
 have l:∀ id,f id=true->Ey f σ ρ (σ id)=ρ id:=λid h=>XL d0 h;have b1:∀ {r:Id},(∀ id,f id=true->σ id=r->st.m id=none)->Ey f σ ρ r=none:=λ{r} h=>by
  cases hp:Ey f σ ρ r with
  | none=>rfl
  | some p =>
   obtain ⟨id,s,g,z⟩:=qQ hp;exact absurd (h id s g) (hw.dom id p z)
 refine ⟨yH T I ρ st.m w F,Ey f σ ρ,⟨⟨?_,?_,?_,?_,?_,λb o n h=>hI _ _ _ (hw.gl b o n h)⟩,?_,hs.nt,⟨hs.df.1.sub (λid p hp=>(qQ hp).elim λid0 h=>⟨id0,h.2.2⟩),hs.df.2⟩,?_,hs.eb⟩⟩
 ·intro r B' c;have c:M r=some (.cells B'):=c
  rcases hm r with ⟨id,o,o1,a2,rfl,s,g,a6,z⟩ | ⟨s,g⟩
  ·rw [z]at c;cases o with
   | map es=>rcases g with g | ⟨b9,g,_⟩ <;> (subst g;cases c)
   | cells B =>
    obtain ⟨get,fz,rfl,h4,h5,h6,h7⟩:=g;simp only [gq,abI,Ob.cells.injEq]at c;subst c;rcases hw.cells id B s with ⟨d1,d2,d3,d4⟩ | ⟨p,cs,d1,d2,d3,d4,d5,d6,d7,d8,d9,d10⟩
    ·exact .inl ⟨by rw [l id a2];exact d1,d2,by simp only;omega,d4⟩
    ·refine .inr ⟨p,cs,by rw [l id a2];exact d1,d2,d3,d4,d5,d6,d7,λi hi=>?_,λj hj=>?_,h6⟩
     ·obtain ⟨seg,e1,e2,e3,e4⟩:=d8 i hi;obtain ⟨g1,g2⟩:=e1.cv hI hS (λ_ _ h=>h) _ (h7 i hi);exact ⟨seg,g1.renP l (a6 i hi),by rw [xX,g2];exact e2,e3,e4⟩
     ·unfold yH at hj;split at hj
      ·rename_i a1;obtain ⟨a3,q2,B2,k1,k2,k3,k4⟩:=a1;have:=hw.inj a3 id q2 p k1 d1 k3
       subst this;rw [s]at k2;cases k2;exact adt k4 (abZ _ h5)
      ·exact adt (d9 j hj) (abZ _ h4)
  ·rcases g with g | ⟨e',get,g,z⟩
   ·rw [g]at c;cases c
   ·rw [g]at c;cases c;exact .inl ⟨b1 s,rfl,rfl,hT.lt_size z⟩
 ·intro r b9 c;have c:M r=some (.map b9):=c
  rcases hm r with ⟨id,o,o1,a2,rfl,s,g,a6,z⟩ | ⟨s,g⟩
  ·rw [z]at c;cases o with
   | cells B=>obtain ⟨get,fz,rfl,_⟩:=g;cases c
   | map es =>
    obtain ⟨p,en,cl,d1,d2,d3,d4,d5,d6⟩:=hw.maps id es s;have c0:∀ j,yH T I ρ st.m w F p.b j=none:=by
     intro j;unfold yH;split
     ·rename_i a1;obtain ⟨a3,q2,B2,k1,k2,k3,k4⟩:=a1;have:=hw.inj a3 id q2 p k1 d1 k3
      subst this;rw [s]at k2;cases k2
     ·exact d5 j
    rcases g with g | ⟨f9,g,h4,h5⟩
    ·subst g;simp only [gq,abI,Ob.map.injEq]at c;subst c;refine ⟨p,en,cl,by rw [l id a2];exact d1,d2,d3,by simpa using d4,c0,λi k v hi=>?_⟩;simp only [ady,ac6,adF]at hi;obtain ⟨pp,hi,rfl,rfl⟩:=hi;obtain ⟨e,e1,e2,e3⟩:=d6 i pp.1 pp.2 hi;have:=a6 _ (acX hi)
     exact ⟨e,e1,(e2.mono hI (iI.refl _)).renP l this.1,(e3.mono hI (iI.refl _)).renP l this.2⟩
    ·subst g;simp only [gq,abI,Ob.map.injEq]at c;subst c;refine ⟨p,en,cl,by rw [l id a2];exact d1,d2,d3,by simp [h4,d4],c0,λi k v hi=>?_⟩;simp only [ady,ac6,adF]at hi;obtain ⟨p1,hi,rfl,rfl⟩:=hi;obtain ⟨pp,k1,k2,k3⟩:=h5 i _ hi;obtain ⟨e,e1,e2,e3⟩:=d6 i pp.1 pp.2 k1;have:=a6 _ (acX hi)
     exact ⟨e,e1,(e2.conv hI hS k2).renP l this.1,(e3.conv hI hS k3).renP l this.2⟩
  ·rcases g with g | ⟨e',get,g,z⟩ <;> (rw [g]at c;cases c)
 ·intro r p hp;obtain ⟨id,s,g,z⟩:=qQ hp;have hd:=hw.dom id p z
  rcases hm r with ⟨_,_,_,_,_,_,_,_,h4⟩ | ⟨h4,_⟩
  ·show M r≠none;rw [h4];simp
  ·exact absurd (h4 id s g) hd
 ·intro i j p q hp hq h;obtain ⟨id,s,g,z⟩:=qQ hp;obtain ⟨a3,k1,k2,k3⟩:=qQ hq;have:=hw.inj id a3 p q z k3 h
  subst this;rw [<- g,<- k2]
 ·intro b o y hy;unfold yH at hy;split at hy
  ·exact hy
  ·exact hw.imm b o y hy
 ·intro k d x hx;simp only [Vq,ac6,adF]at hx;obtain ⟨x0,s,rfl,rfl⟩:=hx;obtain ⟨x,y,g,z,h4,rfl⟩:=ht k x0 s;refine ⟨λ_=>?_,λh=>absurd trivial h⟩;exact (((hs.tm k _ _ g).1 trivial).conv hI hS z).renP l h4
 ·have u:=hs.ev;refine ⟨u.imm.trans hI,λb o h h'=>?_,λid p hp=>?_,λr p hp=>?_,u.frame,u.size,u.os,u.output,u.tape⟩
  ·unfold yH at h';split at h'
   ·rename_i a1;obtain ⟨id,q,B,k1,k2,rfl,k4⟩:=a1;exact u.plN id q k1
   ·exact u.immN b o h h'
  ·obtain ⟨j,hj,rfl⟩:=hs.eb id p hp;obtain ⟨s,g⟩:=hb j hj;obtain ⟨p',z,h4⟩:=u.pl _ p hp;have:=l _ s
   rw [g]at this;exact ⟨p',by rw [this];exact z,h4⟩
  ·obtain ⟨id,s,g,z⟩:=qQ hp;exact u.plN id p z
theorem uM.gen {nt nb:Nat} (hT:jf P T N) {st:St} (F:Id->Nat) (f:Id->Bool) (c:Id->Id) {t:Nat->Option AV} {M:Id->Option Ob} (hF:∀ id B,st.m id=some (.cells B)->F id<=B.n)
 (d:∀ a b,f a=true->f b=true->c a=c b->a=b) (ht:∀ k x',t k=some x'->acR T st F f c k x') (hm:∀ g,acS T st F f c M g) (hb:∀ j,j<nb->f (.b j)=true/\c (.b j) = .b j):uM T N nt nb st (Vq t M) :=
 λe l h I ρ a w i=>aaw hT F f c hF d ht hm (by rw [h];exact hb) i
end
section
variable {P:Program} {T:Nat->TI} {N:Nat}
structure Grown (A B:World):Prop where
 size:A.heap.size<=B.heap.size
 same:∀ b,b<A.heap.size->B.heap[b]? = A.heap[b]?
 os:B.os=A.os
 output:B.output=A.output
 tape:B.tape=A.tape/\A.drawn<=B.drawn
theorem Grown.refl (A:World):Grown A A:=⟨aa4 _,λ_ _=>rfl,rfl,rfl,rfl,aa4 _⟩
theorem Grown.trans {A B C:World} (h:Grown A B) (k:Grown B C):Grown A C :=
 ⟨ad8 h.size k.size,λb hb=>(k.same b (adt hb h.size)).trans (h.same b hb),k.os.trans h.os,k.output.trans h.output,k.tape.1.trans h.tape.1,ad8 h.tape.2 k.tape.2⟩
theorem Grown.heap {A B:World} (h:Grown A B) {b:Nat} {o:Obj} (hb:A.heap[b]? = some o):B.heap[b]? = some o :=
 (h.same b (Array.getElem?_eq_some_iff.1 hb).1).trans hb
theorem Grown.cell {A B:World} (h:Grown A B) {a:Addr} {y:Value} (hc:A.cell? a=some y):B.cell? a=some y:=by
 unfold World.cell? at hc ⊢;cases hb:A.heap[a.block]? with| none=>(rw [hb]at hc;cases hc)| some o=>rw [hb]at hc;rw [h.heap hb];exact hc
theorem Grown.of_ev {I I':fG} {ρ':Pl} {w w':World} (h:Ev I gU w I' ρ' w'):Grown w w' :=
 ⟨h.size,λb hb=>h.frame b hb (λid p hp=>by cases hp),h.os,h.output,h.tape⟩
theorem Grown.alloc (w:World) (o:Obj):Grown w (w.alloc o) :=
 ⟨by simp,λb hb=>fH w o hb,rfl,rfl,rfl,aa4 _⟩
def acQ (T:Nat->TI) (I:fG) (W:World):Prop:=(∀ b o y,I b o=some y->W.cell? ⟨b,o,none⟩=some y) /\ ∀ (b o n:Nat),(T b).glb[o]? = some n->I b o=some (.int .u8 n)
end
section
variable {P:Program} {T:Nat->TI} {N:Nat}
end
section
variable {P:Program} {T:Nat->TI} {N:Nat}
theorem YB (hT:jf P T N) (hE:xg P T N) {e:Entry} {ops:Array Oper} {Q:Exit->Act->World->Prop} {l2:List Oper} (rd:Option Nat) (n:Nat):∀ (l:List Oper) (s s':RS) {I:fG} {ρ:Pl} {a:Act} {w:World},gy T N e I ρ s.st a w ->
 VN T (AC P T N) e.nt ops.toList l s=some s'->ay s'.c->(∀ I' ρ' i w',gy T N e I' ρ' s'.st i w'->wpListIn (mD rd) n P ops Q l2 i w')->ay s.c/\wpListIn (mD rd) n P ops Q (l++l2) a w
 | [],s,s',I,ρ,a,w,hs,h,hc,hQ=>by cases h;exact ⟨hc,hQ _ _ _ _ hs⟩
 | o::r,s,s',I,ρ,a,w,hs,h,hc,hQ=>by simp only [VN,Y0]at h;obtain ⟨G,m,x,p,d⟩:=h;obtain ⟨k,d⟩:=aB d;have key:∀ {I':fG} {ρ':Pl} {i:Act} {w':World},gy T N e I' ρ' (s.st.after o G x.1) i w'->ay (fM s.c x.1.c)/\wpListIn (mD rd) n P ops Q (r++l2) i w':=λg=>YB hT hE rd n r _ s' g d hc hQ;(have f:ay (fM s.c x.1.c):=by clear key;(have:∀ (l:List Oper) (j:RS),VN T (AC P T N) e.nt ops.toList l j=some s'->ay j.c:=by intro l;induction l with| nil=>intro j h;cases h;exact hc| cons o r q=>intro j h;simp only [VN,Y0]at h;obtain ⟨G,m,x,p,d⟩:=h;obtain ⟨_,d⟩:=aB d;have:=q _ d;simp only at this;rw [aJ]at this;exact this.1);exact this _ _ d);rw [aJ]at f;refine ⟨f.1,?_⟩;have b:=Ai (ops:=ops) (Q:=Q) (K:=wpListIn (mD rd) n P ops Q (r++l2)) hT hE hs m p f.2 k (λI' ρ' i w' g=>(key g).2) rd n;rw [List.cons_append];unfold wpListIn;by_cases hw:Region.wanted o (yielded ops a.tmps)=true;{rw [aaW hw]at b ⊢;exact b};rw [MC hw]at b ⊢;exact ⟨λ_ _=>trivial,b⟩
def ET (T:Nat->TI) (N nt:Nat) {α:Type} (J:List α->(Nat->Prop)->World->Prop) (I:fG) (pre:List α) (t:Nat->Option (D×AV)) (a:Act) (W:World):Prop :=
 ∃ Y d c,J pre Y d/\Grown d W/\gy T N ⟨c,gU,W,nt,0,true⟩ c gU ⟨t,λ_=>none⟩ a W /\ ∀ b o y,c b o=some y->I b o=some y\/¬ Y b
theorem ET.mk {nt:Nat} {α:Type} {J:List α->(Nat->Prop)->World->Prop} (q:∀ pre Y A b,J pre Y A->Y b->b<A.heap.size) {I:fG} {pre:List α} {Y:Nat->Prop} {c W e:World} {d I':fG} {ρ':Pl} {t:Nat->Option (D×AV)} {f:Act}
 (m:J pre Y c) (hg:Grown c W) (i:∀ b o y,d b o=some y->I b o=some y\/¬ Y b) (a:gy T N ⟨d,gU,W,nt,0,true⟩ I' ρ' ⟨t,λ_=>none⟩ f e):ET T N nt J I pre t f e:=by
 have l:ρ'=gU:=funext λid=>by
  cases h:ρ' id with
  | none=>rfl
  | some p=>exact absurd rfl (a.wr.dom id p h)
 subst l;have k:Grown W e:=Grown.of_ev a.ev
 refine ⟨Y,c,I',m,hg.trans k,⟨a.wr,a.tm,a.nt,?_,Ev.refl _ _ _,λid p hp=>by cases hp⟩,λb o y n=>?_⟩
 ·have:f.defers=[]:=a.df.2 rfl;rw [this];exact ⟨Marks.nil,λ_=>rfl⟩
 ·cases h:d b o with
  | some z =>
   have g:=a.ev.imm b o z h;rw [n]at g;cases g;exact i b o y h
  | none =>
   rcases a.ev.immN b o h (by rw [n];simp)with ⟨id,p,hp,_⟩ | hb
   ·cases hp
   ·refine .inr λj=>?_;have s:=q pre Y c b m j
    have g:=hg.size;have r:W.heap.size<=b:=hb
    omega
theorem ET.ent {nt:Nat} {α:Type} {J:List α->(Nat->Prop)->World->Prop} (j:∀ pre Y A b,J pre Y A->Y b->b<A.heap.size) {I:fG} {pre:List α} {t t':Nat->Option (D×AV)} {a:Act} {W:World}
 (hi:ET T N nt J I pre t a W) (h:uM T N nt 0 ⟨t,λ_=>none⟩ ⟨t',λ_=>none⟩):ET T N nt J I pre t' a W:=by
 obtain ⟨Y,m,d,e,f,g,i⟩:=hi;obtain ⟨l,k,c⟩:=h ⟨d,gU,W,nt,0,true⟩ rfl rfl d gU a W g;exact ET.mk j e f i c
theorem ET.cond {nt:Nat} {α:Type} {J:List α->(Nat->Prop)->World->Prop} {I:fG} {pre:List α} {t:Nat->Option (D×AV)} {a:Act} {W:World} {c:Operand} {x y:Code} {Q:Exit->Act->World->Prop} {n:Nat} {b:Bool}
 (hi:ET T N nt J I pre t a W) (hc:ev ⟨t,λ_=>none⟩ c=some (.always,.v (.bool b))) (d:b=true->x.wpIn (mD none) n P Q a W) (e:b=false->y.wpIn (mD none) n P Q a W):(Code.cond c x y).wpIn (mD none) n P Q a W:=by
 obtain ⟨Y,h,g,i,j,f,k⟩:=hi;exact wpIn_cond_split ((zh f hc trivial).v).1 d e
theorem ET.start {fn:Func} {α:Type} {J:List α->(Nat->Prop)->World->Prop} {I:fG} {f:Nat->Prop} {W:World} {args:List AV} {vs:List Value} (j:J [] f W) (hI:acQ T I W) (hl:vs.length=args.length) (l:args.length<=fn.ntmps)
 (e:∀ (i:Nat) (x:AV) (v:Value),args[i]? = some x->vs[i]? = some v->fQ T N I gU x v) :
 ET T N fn.ntmps J I [] (λk=>(args[k]?).map λx=>(.always,x)) { tmps:=vs.toArray++Array.replicate (fn.ntmps - vs.toArray.size) undef,defers:=[] } W:=by
 have hw:dW T N I gU (λ_=>none) W:=by have:=sS (T:=T) (N:=N) hI.1 hI.2;rwa [show yI []=λ_=>none from funext λid=>by cases id <;> simp [yI]]at this
 refine ⟨f,W,I,j,Grown.refl W,⟨hw,λk d x ht=>?_,by simp [hl];omega,⟨Marks.nil,λ_=>rfl⟩,Ev.refl _ _ _,λid p hp=>by cases hp⟩,λb o y h => .inl h⟩;simp only [ac6,adF]at ht;obtain ⟨m,g,rfl,rfl⟩:=ht;have c:k<vs.length:=by rw [hl];exact (List.getElem?_eq_some_iff.1 g).1
 refine ⟨λ_=>?_,λh=>absurd trivial h⟩;have a:(vs.toArray++Array.replicate (fn.ntmps - vs.toArray.size) undef).getD k undef=vs[k]:=by simp [Array.getElem?_append,c]
 simp only [a];exact e k m _ g (aaT c)
def Rounds (P:Program) {α:Type} (l M:Nat) (encs:α->Array Value) (J:List α->(Nat->Prop)->World->Prop) (I:fG):Prop :=
 ∀ pre x Y d a,J pre Y d->Grown d a->pre.length<M -> ∀ n,YieldAt Fence.wide n P l (encs x) a λe c=>e = .returned (.bool true) /\
  (∃ f,J (pre++[x]) f c /\ ∀ b,f b->Y b\/a.heap.size<=b)/\(∀ b o y,I b o=some y->a.cell? ⟨b,o,none⟩=some y->c.cell? ⟨b,o,none⟩=some y) /\
  (∀ b,b<a.heap.size->¬ Y b->c.heap[b]? = a.heap[b]?)/\a.heap.size<=c.heap.size
theorem ET.yield {nt:Nat} {α:Type} {J:List α->(Nat->Prop)->World->Prop} (hY:∀ pre Y A b,J pre Y A->Y b->b<A.heap.size) {I:fG} {pre:List α} {t:Nat->Option (D×AV)} {a:Act} {W:World} {Q:Exit->Act->World->Prop} {n:Nat}
 {o:Oper} {r:List Oper} {ops:Array Oper} {c:Call} {fo xo:Operand} {d l M:Nat} {G G1 G2:D} {xv:Value} {x:α} {encs:α->Array Value}
 (hr:Rounds P l M encs J I) (hi:ET T N nt J I pre t a W) (a0:o.op = .call c) (w:c.callee = .value fo) (q:c.args = #[xo]) (f:o.dst=some d) (hd:d<nt)
 (hg:oJ ops.toList ⟨t,λ_=>none⟩ o=some G) (a6:ev ⟨t,λ_=>none⟩ fo=some (G1,.v (.func (.yield l) #[] #[]))) (h1:G.tr->G1.tr) (a8:ev ⟨t,λ_=>none⟩ xo=some (G2,.v xv)) (h2:G.tr->G2.tr)
 (hx:G.tr->encs x = #[xv]) (hM:G.tr->pre.length<M)
 (a2:G.tr -> ∀ u m,ET T N nt J I (pre++[x]) (Gl t d (some (G,.v (.bool true)))) u m->wpListIn (mD none) n P ops Q r u m)
 (a7:¬ G.tr -> ∀ u,ET T N nt J I pre (Gl t d (some (G,.v (.bool true)))) u W->wpListIn (mD none) n P ops Q r u W) :
 wpListIn (mD none) n P ops Q (o::r) a W:=by
 obtain ⟨Y,Wp,Im,k1,k2,g,k4⟩:=hi;have i:=vM g hg
 have z:d<a.tmps.size:=by rw [g.nt];exact hd
 unfold wpListIn;by_cases j:G.tr
 ·rw [aaW (i.1 j)];refine ⟨λ_ _=>trivial,?_⟩;rw [Oper.semAt_eq _ _ _ (by simp [a0])];obtain ⟨fn,tmps,assign,body,hy,hR⟩:=hr pre x Y Wp W k1 k2 (hM j) (n - 1);rw [hx j]at hy;have e1:=((zh g a6 (h1 j)).v).1
  have e2:=((zh g a8 (h2 j)).v).1;have a1:(execOp a.eval o).run P W = .ok (.round l fn tmps assign body) W:=by
   unfold execOp;rw [a0];simp only [resolve,w,e1,q,List.map_toArray,aev,List.map_nil,e2];simp [go_sem,hy]
  rw [a1];refine ⟨λh=>(by cases h),RoundIn.mono hR ?_⟩;rintro e m ⟨rfl,⟨Y',j1,j2⟩,j3,j4,j5⟩;refine a2 j _ m ⟨Y',m,Im,j1,Grown.refl m,⟨?_,λk d2 y ht=>?_,?_,?_,Ev.refl _ _ _,λid p hp=>by cases hp⟩,λb o2 y h=>?_⟩
  ·have:dW T N Im gU (yI []) m:=sS (λb o2 y h=>by
    have hc:=g.wr.imm b o2 y h;rcases k4 b o2 y h with hI | s
    ·exact j3 b o2 y hI hc
    ·unfold World.cell? at hc ⊢;cases hb:W.heap[b]? with
     | none=>simp only [hb]at hc;cases hc
     | some ob =>
      simp only [hb]at hc;have:=j4 b (Array.getElem?_eq_some_iff.1 hb).1 s
      simp only [this,hb];exact hc) g.wr.gl
   rwa [show yI []=λ_=>none from funext λid=>by cases id <;> simp [yI]]at this
  ·rw [f,F7 z];simp only [Gl]at ht;by_cases hk:k=d
   ·subst hk;rw [aeT,adq]at ht;cases ht;rw [aaW rfl];exact ⟨λ_=>fU rfl,λh=>absurd j h⟩
   ·rw [jQ hk,ado]at ht;rw [MC hk];exact g.tm k d2 y ht
  ·rw [<- g.nt,f];simp [Act.put]
  ·have:a.defers=[]:=g.df.2 rfl;rw [f];simp only [Act.put];rw [this];exact ⟨Marks.nil,λ_=>rfl⟩
  ·rcases k4 b o2 y h with hI | s
   ·exact .inl hI
   ·refine .inr λa5=>?_;rcases j2 b a5 with h' | h'
    ·exact s h'
    ·have:=lN (g.wr.imm b o2 y h);omega
 ·rw [MC (λe=>j (i.2 e))];refine ⟨λ_ _=>trivial,a7 j _ ⟨Y,Wp,Im,k1,k2,⟨g.wr,λk d2 y ht=>?_,?_,?_,g.ev,g.eb⟩,k4⟩⟩
  ·rw [f,F7 z];simp only [Gl]at ht;by_cases hk:k=d
   ·subst hk;rw [aeT,adq]at ht;cases ht;rw [aaW rfl];exact ⟨λh=>absurd h j,λ_=>rfl⟩
   ·rw [jQ hk,ado]at ht;rw [MC hk];exact g.tm k d2 y ht
  ·rw [<- g.nt,f];simp [Act.put]
  ·rw [f];exact g.df
end
section
variable {P:Program} {T:Nat->TI} {N nt:Nat} {α:Type} {J:List α->(Nat->Prop)->World->Prop} {I:fG} {pre:List α} {t t':Nat->Option (D×AV)} {a:Act} {W:World} {Q:Exit->Act->World->Prop} {n:Nat} {ops:Array Oper}
theorem ET.begins (hT:jf P T N) (hE:xg P T N) (p:∀ pre Y A b,J pre Y A->Y b->b<A.heap.size) {g l2:List Oper} (gs:List CG) {e:List CG} {c:Option Prop} (hi:ET T N nt J I pre t a W) (h:Zf T (AC P T N) nt ops.toList g t (λ_=>none) gs none=some ⟨⟨t',λ_=>none⟩,e,c⟩) (hc:ay c)
 (o:∀ d i,ET T N nt J I pre t' d i->wpListIn (mD none) n P ops Q l2 d i):wpListIn (mD none) n P ops Q (g++l2) a W:=by
 obtain ⟨Y,r,q,j,k,l,m⟩:=hi;rw [LU]at h;exact (YB hT hE none n g ⟨⟨t,λ_=>none⟩,gs,none⟩ _ l h hc (λI' ρ' d w' f=>o d w' (ET.mk p j k m f))).2
theorem ET.ends (hT:jf P T N) (hE:xg P T N) (j:∀ pre Y A b,J pre Y A->Y b->b<A.heap.size) {g:List Oper} (gs:List CG) {d:List CG} {c:Option Prop} (hi:ET T N nt J I pre t a W) (h:Zf T (AC P T N) nt ops.toList g t (λ_=>none) gs none=some ⟨⟨t',λ_=>none⟩,d,c⟩) (hc:ay c)
 (i:∀ f e,ET T N nt J I pre t' f e->Q .normal f e):wpListIn (mD none) n P ops Q g a W:=by
 have:=ET.begins (l2:=[]) (Q:=Q) (n:=n) hT hE j gs hi h hc i
 rwa [adC]at this
theorem ET.val (hi:ET T N nt J I pre t a W) {k:Nat} {x:Value} (h:t k=some (.always,.v x)):a.tmps.getD k undef=x:=by
 obtain ⟨Y,d,c,e,f,b,g⟩:=hi;exact (((b.tm k _ _ h).1 trivial).v).1
theorem ET.fin {fn:Func} {S:List α->Prop} (hi:ET T N nt J I pre t a W) (g:S pre) (b:fn.results = #[]) :
 a.defers=[] /\ ∃ v,(results fn a.tmps).run P W = .ok v W/\(∃ h,(Ending.returned v) = .returned h) /\ ∃ xs Y c,S xs/\J xs Y c/\Grown c W:=by
 obtain ⟨Y,c,i,d,e,f,j⟩:=hi;refine ⟨f.df.2 rfl,.tuple #[],?_,⟨_,rfl⟩,pre,Y,c,g,d,e⟩;simp [results,b]
end
mutual
theorem zD (ids:List Id):∀ x,PZ (iy ids) x=fP ids x
 | .v _=>rfl
 | .agg _ n get=>by simp only [PZ,fP];congr 1;funext i;exact zD ids (get i)
 | .tup vs=>GU ids vs
 | .row .. => rfl
 | .own .. => rfl
 | .arr .. => rfl
 | .ptr .. => rfl
 | .rp .. => rfl
 | .clo _ caps=>GU ids caps
 | .mp _=>rfl
theorem GU (ids:List Id):∀ l,QF (iy ids) l=Aw ids l
 | []=>rfl
 | x::r=>by simp only [QF,Aw,zD ids x,GU ids r]
end
theorem XB {ids:List Id} {o:Ob} (h:okO ids o):acs (iy ids) o:=by
 cases o with| cells B=>(exact λi hi=>by rw [zD];exact h i hi)| map es=>exact λp hp=>⟨by rw [zD];exact (h p hp).1,by rw [zD];exact (h p hp).2⟩
section
variable {P:Program} {T:Nat->TI} {N:Nat}
def acT (T:Nat->TI) (st:St) (F:List (Id×Nat)) (all:List Id) (id:Id) (b:Ob):Prop :=
 (∃ o a,st.m id=some o/\ObC st.m (λid=>dO id F) T (dO id F) o a/\okO all a/\b=gq (sig all 0) a)\/(st.m id=none /\ ∃ e get,b = .cells ⟨e,0,get,0⟩/\0<(T e).size)
def TJ (T:Nat->TI) (st:St) (F:List (Id×Nat)) (all:List Id):List Id->List Ob->Prop
 | [],[]=>True
 | id::r,o::s=>acT T st F all id o/\TJ T st F all r s
 | _,_=>False
def TG (T:Nat->TI) (st:St) (F:List (Id×Nat)) (all:List Id):List (Nat×AV)->Prop
 | []=>True
 | (k,x')::r=>(∃ x y,st.t k=some (.always,x)/\Conv st.m (λid=>dO id F) T x y/\fP all y=true/\x'=ren (sig all 0) y)/\TG T st F all r
theorem Pe {st:St} {F:List (Id×Nat)} {all:List Id}:∀ {ids:List Id} {B:List Ob},TJ T st F all ids B->B.length=ids.length /\ ∀ (i:Nat) (id:Id) (o:Ob),ids[i]? = some id->B[i]? = some o->acT T st F all id o
 | [],[],_=>⟨rfl,λi id o h=>by simp at h⟩
 | [],_::_,h=>h.elim
 | _::_,[],h=>h.elim
 | id::r,o::s,h=>by obtain ⟨c,d⟩:=Pe h.2;refine ⟨by simp [c],λi b e hi a=>?_⟩;cases i with| zero=>simp at hi a;subst hi a;exact h.1| succ i=>exact d i b e (by simpa using hi) (by simpa using a)
theorem O9 {st:St} {F:List (Id×Nat)} {all:List Id}:∀ {ts:List (Nat×AV)} {k:Nat} {x':AV},TG T st F all ts->(k,x')∈ts -> ∃ x y,st.t k=some (.always,x)/\Conv st.m (λid=>dO id F) T x y/\fP all y=true/\x'=ren (sig all 0) y
 | [],_,_,_,h=>by cases h
 | (j,y)::r,k,x,h,hm=>by cases hm with| head=>exact h.1| tail _ hm=>exact O9 h.2 hm
theorem uM.toB (hT:jf P T N) {nt:Nat} {st:St} (F:List (Id×Nat)) (ids:List Id) {ts:List (Nat×AV)} {B:List Ob} (hF:IZ st F) (f:distinct ids=true) (ht:TG T st F ids ts) (hm:TJ T st F ids ids B):uM T N nt 0 st (Vq (λk=>oz k ts) (yI B)):=by
 have c:ids.Nodup:=by clear ht hm;induction ids with| nil=>exact List.nodup_nil| cons a r ih=>simp only [distinct,abh,aeH]at f;refine List.nodup_cons.2 ⟨λh=>?_,ih f.2⟩;rw [jr.2 h]at f;(cases f.1)
 obtain ⟨hlen,a0⟩:=Pe hm;refine uM.gen hT (λid=>dO id F) (iy ids) (sig ids 0) (λid B hB=>FI hF hB) (λa b ha hb n=>?_) (λk x' hk=>?_) (λt=>?_) (λj d=>absurd d (Nat.not_lt_zero _))
 ·obtain ⟨i,hi⟩:=ads (jr.1 ha);obtain ⟨j,d⟩:=ads (jr.1 hb);rw [Dz c hi,Dz c d]at n;cases n;rw [hi]at d;cases d;rfl
 ·obtain ⟨x,y,h1,m,h3,h4⟩:=O9 ht (AL hk);exact ⟨x,y,h1,m,by rw [zD];exact h3,h4⟩
 by_cases hex:∃ i id,ids[i]? = some id/\t = .b i;{obtain ⟨i,id,hi,rfl⟩:=hex;(have g:i<B.length:=by rw [hlen];exact (List.getElem?_eq_some_iff.1 hi).1);have hb:=a0 i id B[i] hi (aaT g);have q:iy ids id=true:=jr.2 (acX hi);rcases hb with ⟨o,o1,g1,v,w,z⟩ | ⟨g1,v⟩;{refine .inl ⟨id,o,o1,q,Dz c hi,g1,v,XB w,?_⟩;show B[i]? = _;rw [aaT g,z]};refine .inr ⟨λu m l=>?_,.inr ?_⟩;{obtain ⟨j,d⟩:=ads (jr.1 m);rw [Dz c d]at l;cases l;rw [hi]at d;cases d;exact g1};obtain ⟨e,get,w,z⟩:=v;refine ⟨e,get,?_,z⟩;show B[i]? = _;rw [aaT g,w]};refine .inr ⟨λu m l=>?_,.inl ?_⟩;{obtain ⟨j,d⟩:=ads (jr.1 m);rw [Dz c d]at l;exact absurd ⟨j,u,d,l.symm⟩ hex};cases t with| s a b=>rfl| b j=>show B[j]? = none;rw [List.getElem?_eq_none_iff];apply Nat.le_of_not_lt;intro p;rw [hlen]at p;exact hex ⟨j,ids[j],aaT p,rfl⟩
end
end Go.Ab
namespace Go.Ab
section
variable {P:Program} {T:Nat->TI} {N:Nat}
theorem FD (hT:jf P T N) {nt:Nat} {st:St} (F:List (Id×Nat)) (ids:List Id) {ts:List (Nat×AV)} {B:List Ob} {rs:List ResultVar} {r:AV} {l:List AV} (hF:IZ st F) (a:distinct ids=true) (ht:TG T st F ids ts) (hm:TJ T st F ids ids B) (hl:zS T (aN ts (IK 0 B)) rs=some (l,none)) (b:r=resV l):Fin T N nt 0 rs r B st:=by
 refine ⟨ts,?_,(l,none),hl,trivial,b⟩;have h:=uM.toB hT (nt:=nt) F ids hF a ht hm;have e:aN ts (IK 0 B)=Vq (λk=>oz k ts) (yI B):=by rw [ZY,Fv]
 rw [e];exact h
end
open Go.Proofs
section
variable {P:Program} {T:Nat->TI} {N:Nat}
theorem bf (hT:jf P T N) {nt k j t:Nat} {st:St} {y:AV} {B:zQ} (h:st.t k=some (.always,.ptr (.s j 0) 1 0 [])) (hm:st.m (.s j 0)=some (.cells B)) (b:B.ty=t) (hn:B.n=1) (a:B.fz=0) (i:Conv st.m (λid=>dO id []) T (B.get 0) y) (c:fJ y=true) (e:fP [.s j 0] y=true) (d:rZ y=true):Fin T N nt 0 [.cell k t] y [] st:=by
 obtain ⟨ty,n,get,fz⟩:=B;simp only at b hn a i;subst b hn a;refine Fin.ent (uM.mk (P:=P) hT [] (ts:=[(k,.ptr (.s j 0) 1 0 [])]) (ms:=[(.s j 0,.cells ⟨ty,1,λ_=>y,0⟩)]) trivial ⟨⟨by simp [fP,iy,aT],_,h,ah rfl⟩,tt⟩ ⟨⟨λ_ _=>e,.inl ⟨_,hm,_,_,rfl,aa4 _,abO _,abO _,λq g=>?_⟩⟩,tt⟩ rfl) ?_
 ·(obtain rfl:q=0:=by simp at g;exact g);exact i
 (have f:(aN [(k,AV.ptr (.s j 0) 1 0 [])] [(.s j 0,Ob.cells ⟨ty,1,λ_=>y,0⟩)]).m (.s j 0)=some (.cells ⟨ty,1,λ_=>y,0⟩):=by simp [aN,nO,aT]);(have o:(aN [(k,AV.ptr (.s j 0) 1 0 [])] [(.s j 0,Ob.cells ⟨ty,1,λ_=>y,0⟩)]).t k=some (.always,.ptr (.s j 0) 1 0 []):=by simp [aN,oz]);refine aG hT [(.s j 0,1)] (ts:=[(k,.rp ty y)]) (l:=[y]) ⟨⟨_,f,aa4 _⟩,tt⟩ ⟨⟨rfl,_,o,?_⟩,tt⟩ trivial rfl ?_ rfl;{exact bG f rfl (by simp [dO,aT]) rfl (by show y.at []=y;cases y <;> rfl) c};simp [zS,aN,oz,VL,nX,d,fM]
theorem qm {α β:Type} {f g:α->List β}:∀ {l:List α},(∀ a∈l,f a=g a)->l.flatMap f=l.flatMap g
 | [],_=>rfl
 | a::r,h=>by rw [aeF,aeF,h a (adO ..),qm (λb hb=>h b (adv _ hb))]
def JM (T:Nat->TI) (F:AV->Option (List Value)):List Nat->Nat->(Nat->AV)->Option (List Value)
 | [],_,_=>some []
 | u::r,i,g=>bif fit T u (g i)then (F (g i)).bind λl=>bif Nat.beq l.length (T u).size then (JM T F r (i+1) g).bind λm=>some (l++m)else none else none
def EG (T:Nat->TI) (N:Nat):Nat->AV->Option (List Value)
 | 0,_=>none
 | _+1,.v x=>bif qh x then some [x]else none
 | f+1,.agg t n get=>match (T t).kind with
  | .struct fs=>bif Nat.beq fs.length n&&Nat.blt t N then JM T (EG T N f) fs 0 get else none
  | .array k e=>bif Nat.beq k n&&Nat.blt t N then JM T (EG T N f) (List.replicate n e) 0 get else none
  | _=>none
 | _+1,_=>none
theorem AZ {F:AV->Option (List Value)}:∀ {fs:List Nat} {i:Nat} {g:Nat->AV} {l:List Value},JM T F fs i g=some l ->
 (∀ j u,fs[j]? = some u->fit T u (g (i+j))=true /\ ∃ d,F (g (i+j))=some d/\d.length=(T u).size)/\l=(List.range fs.length).flatMap (λj=>(F (g (i+j))).getD [])
 | [],i,g,l,h=>by cases h;exact ⟨λj u h=>by simp at h,rfl⟩
 | u::r,i,g,l,h=>by rw [JM]at h;cases hf:fit T u (g i)with| false=>(rw [hf]at h;cases h)| true=>rw [hf,adq]at h;(cases hF:F (g i)with| none=>(rw [hF]at h;cases h)| some c=>rw [hF]at h;simp only [aeg]at h;(cases hl:Nat.beq c.length (T u).size with| false=>(rw [hl]at h;cases h)| true=>rw [hl,adq]at h;(cases b:JM T F r (i+1) g with| none=>(rw [b]at h;cases h)| some m=>rw [b]at h;simp only [aeg,abI]at h;subst h;obtain ⟨e,f⟩:=AZ b;refine ⟨λj v a=>?_,?_⟩;{cases j with| zero=>simp at a;subst a;exact ⟨hf,c,hF,abM hl⟩| succ j=>have:=e j v (by simpa using a);rwa [show i+1+j=i+(j+1) by omega]at this};rw [adQ,List.range_succ_eq_map,aeF,List.flatMap_map,f];simp only [adV,hF,adr];congr 1;refine qm ?_;intro j _;rw [show i+1+j=i+(j+1) by omega])))
theorem OX:∀ {f:Nat} {x:AV} {l:List Value},EG T N f x=some l->(∀ I ρ,Rep T N I ρ x l) /\ ∀ I ρ cs,Rep T N I ρ x cs->cs=l:=by
 intro f;induction f with| zero=>(intro x l h;cases h)| succ f s=>intro x l h;(match x with| .v y=>rw [EG]at h;(cases hp:qh y with| false=>(rw [hp]at h;cases h)| true=>rw [hp,adq,abI]at h;subst h;exact ⟨λI ρ => .v hp,λI ρ cs p=>by cases p;rfl⟩)| .agg t n get=>rw [EG]at h;split at h;{rename_i fs hk;cases hc:(Nat.beq fs.length n&&Nat.blt t N)with| false=>(rw [hc]at h;cases h)| true=>rw [hc,adq]at h;simp only [abh]at hc;have hn:=abM hc.1;(have ht:t<N:=by simpa [adR]using hc.2);obtain ⟨b,m⟩:=AZ h;simp only [acW]at b m;subst hn m;refine ⟨λI ρ => .struct fs _ hk rfl ht (λi u hi=>?_) (λi u hi=>(b i u hi).1) (λi u hi=>?_),λI ρ cs p=>?_⟩;{obtain ⟨_,q,e,_⟩:=b i u hi;simp only [e,adr];exact (s e).1 I ρ};{obtain ⟨_,q,e,w⟩:=b i u hi;simp only [e,adr];exact w};(cases p with| struct z segs a a0 g j c d=>rw [hk]at a;cases a;refine qm ?_;intro i hi;(have o:i<fs.length:=by simpa using hi);obtain ⟨_,q,e,_⟩:=b i _ (aaT o);simp only [e,adr];exact (s e).2 I ρ _ (j i _ (aaT o))| array e segs a g j c d=>(rw [hk]at a;cases a))};{rename_i k e hk;cases hc:(Nat.beq k n&&Nat.blt t N)with| false=>(rw [hc]at h;cases h)| true=>rw [hc,adq]at h;simp only [abh]at hc;have hn:=abM hc.1;(have ht:t<N:=by simpa [adR]using hc.2);obtain ⟨b,m⟩:=AZ h;simp only [acW,List.length_replicate]at b m;have r:∀ i,i<n->fit T e (get i)=true /\ ∃ lj,EG T N f (get i)=some lj/\lj.length=(T e).size:=λi hi=>b i e (by simp [hi]);subst hn m;refine ⟨λI ρ => .array e _ hk ht (λi hi=>?_) (λi hi=>(r i hi).1) (λi hi=>?_),λI ρ cs p=>?_⟩;{obtain ⟨_,q,e,_⟩:=r i hi;simp only [e,adr];exact (s e).1 I ρ};{obtain ⟨_,q,e,w⟩:=r i hi;simp only [e,adr];exact w};(cases p with| struct z segs a a0 g j c d=>(rw [hk]at a;cases a)| array e segs a g j c d=>rw [hk]at a;cases a;refine qm ?_;intro i hi;obtain ⟨_,q,e,_⟩:=r i (by simpa using hi);simp only [e,adr];exact (s e).2 I ρ _ (j i (by simpa using hi)))};(cases h)| .tup _ | .row .. | .own .. | .arr .. | .ptr .. | .rp .. | .clo .. | .mp _=>simp [EG]at h)
end
section
variable {α:Type} {d:α}
end
section
variable {P:Program} {T:Nat->TI} {N:Nat}
theorem EN {w:World} {base:Nat} {a:Addr} {n:Nat} {cs:List Value} (h:w.cells? base a n=some cs) (hn:0<n):a.spot=none:=by
 obtain ⟨_,c⟩:=x9 h;have b:=c 0 hn;have hl:0<cs.length:=by rw [(x9 h).1];exact hn
 rw [aaT hl,show a.add 0=a from rfl]at b;unfold World.cell? at b;split at b
 ·split at b;{cases b};rename_i d;simpa using d
 cases b
theorem Dec.slice (hT:jf P T N) {t e:Nat} {α:Type} {enc:α->AV} {Q:α->Prop} (d0:α) (hu:P.underlying t=some (.slice e)) (hk:(T t).kind.isAgg=false) (he:e<N) (hd:Dec P T N e enc Q):Dec P T N t (Xa e enc d0 false) (λl => ∀ a∈l,Q a):=by
 intro H eh w fuel cs d ps p;have g:∀ l,fit T t (Xa e enc d0 false l)=true:=λl=>by show (!(T t).kind.isAgg)=true;rw [hk];rfl
 cases fuel with| zero=>simp [DataW.trod]at p| succ fuel =>
 unfold DataW.trod at p;rw [hu]at p;have hsz:=hT.cellsOf he;have n:=hT.size_pos he;obtain ⟨v,rfl⟩:∃ v,cs=[v]:=by rcases cs with _ | ⟨v,_ | ⟨u,r⟩⟩;{simp at p};{exact ⟨v,rfl⟩};simp at p
 cases v <;> try (simp at p;done)
 rename_i a len cap;cases a with
 | none=>(have h0:len=0/\cap=0:=by cases len <;> cases cap <;> simp_all);obtain ⟨rfl,rfl⟩:=h0;exact ⟨[],λa ha=>by simp at ha,.row0 he,g _⟩
 | some a =>
  simp only [aem,adT,Y0,ac6]at p
  obtain ⟨⟨_,h1,a6⟩,elems,a5,rest,z,_⟩:=p
  have a4:cap<2 ^ 63:=by unfold maxLen at a6;omega
  rcases aeO cap with s | s
  ·subst s;(obtain rfl:len=0:=by omega);exact ⟨[],λa ha=>by simp at ha,.row0 he,g _⟩
  ·have k:a.spot=none:=by rcases aeO len with x | x;{subst x;obtain ⟨_,f⟩:=mapM_at z;obtain ⟨y,_,m⟩:=f 0 0 (by simp [s]);simp only [Y0]at m;obtain ⟨seg,h7,_⟩:=m;have h8:=EN h7 (by rw [hsz];exact n);simpa [Addr.add]using h8};obtain ⟨_,f⟩:=mapM_at a5;obtain ⟨y,_,m⟩:=f 0 0 (by simp [x]);simp only [Y0]at m;obtain ⟨seg,h7,_⟩:=m;have h8:=EN h7 (by rw [hsz];exact n);simpa [Addr.add]using h8
   obtain ⟨b,off,spot⟩:=a
   simp only at k
   subst k
   obtain ⟨hlen,f⟩:=mapM_at a5
   have hex:∀ i,∃ (a:α) (seg:List Value),i<len->Q a/\Rep T N (oQ w) gU (enc a) seg/\fit T e (enc a)=true/\seg.length=(T e).size /\ ∀ o,o<(T e).size->oQ w b (off+(i*(T e).size+o))=seg[o]? := by intro i;by_cases hi:i<len;{obtain ⟨y,h5,m⟩:=f i i (by simp [hi]);simp only [Y0]at m;obtain ⟨seg,h7,h8⟩:=m;obtain ⟨a,q1,q2,q3⟩:=hd H eh w fuel seg y.1 y.2 h8;obtain ⟨c1,c2⟩:=x9 h7;rw [hsz]at c1 c2;refine ⟨a,seg,λ_=>⟨q1,q2,q3,c1,λo ho=>?_⟩⟩;rw [<- c2 o ho];simp only [oQ,jk,adK]};exact ⟨d0,[],λh=>absurd h hi⟩
   have c:=λi=>adk (adk (hex i))
   generalize hA:(λi=>Classical.choose (hex i))=A at c
   have q:∀ i,Classical.choose (hex i)=A i:=λi=>congrFun hA i
   refine ⟨(List.range len).map A,λa ha=>?_,?_,g _⟩
   ·simp only [List.mem_map,adB]at ha;obtain ⟨i,hi,rfl⟩:=ha;have:=(c i hi).1;rwa [q]at this
   ·have hg:∀ i,i<len->((List.range len).map A).getD i d0=A i:=λi hi=>by simp [hi]
    have:=Rep.row (T:=T) (N:=N) (I:=oQ w) (ρ:=gU) (e:=e) (full:=false) (len:=((List.range len).map A).length) (get:=λi=>enc (((List.range len).map A).getD i d0)) b off cap (λi=>Classical.choose (adk (hex i))) he (by simpa using h1) a4 (λh=>by cases h)
     (
      λi hi=>by
      have j:i<len:=by simpa using hi
      rw [hg i j,<- q]
      exact (c i j).2.1)
     (
      λi hi=>by
      have j:i<len:=by simpa using hi
      rw [hg i j,<- q]
      exact (c i j).2.2.1)
     (λi hi=>(c i (by simpa using hi)).2.2.2.1)
     (λi hi o ho=>(c i (by simpa using hi)).2.2.2.2 o ho)
    simpa [Xa]using this
theorem GR (hT:jf P T N) {t:Nat} {fs:List Nat} (hk:(T t).kind = .struct fs) {w:World} {r:Reach} {base:Nat} {v:Value} (h:Value.okWide P w r base t v):∃ cs,v = .agg cs:=by
 have c:=hT.lt (t:=t) (by rw [hk];simp);obtain ⟨dd,b,a,e⟩:=hT.und t c;rw [hk]at a;cases dd <;> simp only [kindOf,reduceCtorEq,TK.struct.injEq]at a
 unfold Value.okWide at h;rw [b]at h;obtain ⟨cs,d,_⟩:=h;exact ⟨cs,d⟩
end
section
variable {R:Option Nat->Bool->Prop} {P:Program} {T:Nat->TI} {N nt nb:Nat} {post:Post} {st:St}
theorem sq {x y:Code} (h:WP R P T N nt nb x (tK (WP R P T N nt nb y post) post) st):WP R P T N nt nb (.seq x y) post st:=WP.seq h
theorem bk {id:Nat} {c:Code} (h:WP R P T N nt nb c (VG id post) st):WP R P T N nt nb (.block id c) post st:=WP.block h
theorem sk (h:post .normal st):WP R P T N nt nb .skip post st:=WP.skip h
theorem xt {id:Nat} (h:post (.exit id) st):WP R P T N nt nb (.exit id) post st:=WP.exit h
theorem cd {c:Operand} {x y:Code} {b:Bool} (hc:ev st c=some (.always,.v (.bool b))) (ht:b=true->WP R P T N nt nb x post st) (hf:b=false->WP R P T N nt nb y post st):WP R P T N nt nb (.cond c x y) post st:=WP.cond hc ht hf
theorem cvt {m:Id->Option Ob} {F:Id->Nat} {x y:AV} (h:x=y:=by first | rfl | (rw [bK (by omega) (by omega)];simp;done) | (simp;done)):Conv m F T x y:=ah h
theorem all_succ {Q:Nat->Prop} {i:Nat} (hn:∀ j,j<i->Q j) (h:Q i):∀ j,j<i+1->Q j:=λj b=>by
 rcases adf j i with a | a
 ·exact hn j a
 ·obtain rfl:j=i:=by omega
  exact h
theorem cq {Q:Prop} (h:Q:=by refine ⟨rfl,_,rfl,?_⟩;exact cvt):Q:=h
theorem cX {Q:Prop} (h:Q:=by
 repeat refine ⟨cq,?_⟩
 exact True.intro):Q:=h
theorem au {Q:Prop} (h:Q:=by
 simp only [ay,under,CG.pure];repeat' with_reducible refine And.intro ?_ ?_
 all_goals (try with_reducible intros)
 all_goals (first | exact trivial | assumption | omega | (simp;done) | grind)):Q:=h
theorem obs {st:St} {F:List (Id×Nat)} {keep:List Id} {id:Id} {B:zQ} {ty n:Nat} {get:Nat->AV} {X:Prop} (hm:st.m id=some (.cells B)) (ht:B.ty=ty:=by rfl) (hn:B.n=n:=by rfl) (c:B.fz=0:=by rfl) (hF:dO id F=0:=by rfl) (a:∀ i,i<n->fP keep (get i)=true:=by exact λ_ _=>rfl)
 (hg:∀ q,q<n->Conv st.m (λid=>dO id F) T (B.get q) (get q):=by exact λq b=>by first | exact ah rfl | (obtain rfl:q=0:=(by simp at b;exact b);exact ah rfl)) :
 okO keep (.cells ⟨ty,n,get,0⟩)/\((∃ d,st.m id=some d/\ObC st.m (λid=>dO id F) T (dO id F) d (.cells ⟨ty,n,get,0⟩))\/X):=by
 obtain ⟨e,f,get',fz⟩:=B;simp only at ht hn c hg;subst ht hn c;exact ⟨a,.inl ⟨_,hm,get,0,rfl,aa4 _,by rw [hF];exact aa4 _,abO _,hg⟩⟩
end
section
variable {R:Option Nat->Bool->Prop} {P:Program} {T:Nat->TI} {N nt nb:Nat} {post:Post}
theorem Vz {m:Id->Option Ob} {F:Id->Nat} {id:Id} {cap:Option Nat}:Conv m F T .nils (.own id 0 0 0 cap):=Or.inr ⟨rfl,.inl ⟨_,_,rfl⟩⟩
theorem WP.nilreg (hT:jf P T N) (hE:xg P T N) {id:Nat} {ops:Array Oper} {o:Oper} {l:List Oper} {t p:Nat->Option (D×AV)} {m q:Id->Option Ob} {gs s:List CG} {c:Option Prop} {ty i z yt:Nat} {e len el:Nat} {f:Bool} {g:Nat->AV}
 (hl:ops.toList=l++[o]) (h:Zf T (AC P T N) nt ops.toList l t m gs none=some ⟨⟨p,q⟩,s,c⟩) (hc:ay c)
 (ho:o.op = .binOp .eql ty (.tmp i) (.const (.slice none 0 0)) yt) (hd:o.dst=some z) (hg:o.guard=none) (a4:Dj nt (some z)=true) (ht:p i=some (.always,.row e f len g)) (hk:(T ty).kind = .slice el)
 (hp:∀ b,post .normal ⟨Gl p z (some (.always,.v (.bool b))),q⟩):WP R P T N nt nb (.region id ops false) post ⟨t,m⟩:=λen h1 h2 I ρ a w hs rd hr n=>by
 subst h1;rw [LU]at h;have a2:∀ st,oJ ops.toList st o=some .always:=λst=>by unfold oJ;rw [hg]
 refine wpIn_region_list ?_;have hh:wpListIn (mD rd) n P ops (λex d w' => ∃ st' I' ρ',post ex st'/\gy T N en I' ρ' st' d w') (l++[o]) a w:=by refine (YB (l2:=[o]) hT hE rd n l ⟨⟨t,m⟩,gs,none⟩ ⟨⟨p,q⟩,s,c⟩ hs h hc (λI' ρ' d w' j=>?_)).2;have k:=vM j (a2 ⟨p,q⟩);unfold wpListIn;rw [aaW (k.1 trivial)];refine ⟨λ_ _=>trivial,?_⟩;rw [Oper.semAt_eq _ _ _ (by simp [ho])];have u:=((j.tm i _ _ ht).1 trivial).rep1 (λ_=>by simp);have hu:=(hT.sli hk).2;(have key:∀ (v:Value) (sp:Option Addr) (ln y:Nat),v = .slice sp ln y->d.eval (.tmp i)=v -> ∃ b,(do eqGuard .eql ty (.tmp i) (.const (.slice none 0 0)) (d.eval (.tmp i)) (d.eval (.const (.slice none 0 0)));binOp .eql ty (d.eval (.tmp i)) (d.eval (.const (.slice none 0 0))):Sem Value).run P w' = .ok (.bool b) w':=by rintro v sp ln y rfl ev;refine ⟨sp.isNone&&true,?_⟩;have e2:d.eval (.const (.slice none 0 0)) = .slice none 0 0:=rfl;rw [ev,e2];have a3:=gJ (P:=P) (a := .slice sp ln y) (b := .slice none 0 0) .eql ty (.tmp i) (.const (.slice none 0 0)) (by simp) (by simp) w';simp only [Sem.run_bind,a3,Result.andThen_ok,binOp];rw [gV hu w' sp none ln y 0 0 (.inr rfl)];rfl);(have a1:∃ b,(do eqGuard .eql ty (.tmp i) (.const (.slice none 0 0)) (d.eval (.tmp i)) (d.eval (.const (.slice none 0 0)));binOp .eql ty (d.eval (.tmp i)) (d.eval (.const (.slice none 0 0))):Sem Value).run P w' = .ok (.bool b) w':=by rcases Rep.row_inv u with ⟨⟨ad,ex⟩,_,_⟩ | ⟨b,off,cap,segs,_,_,_,_,_,_,_,_,ex⟩;{exact key _ _ _ _ ex rfl};exact key _ _ _ _ ex rfl);obtain ⟨b,hb⟩:=a1;(have x:(execOp d.eval o).run P w' = .ok (.value (.bool b)) w':=by unfold execOp;rw [ho];exact fB hb);rw [x];refine ⟨_,I',ρ',hp b,?_⟩;have:=pK (o:=o) (G := .always) (r:=⟨.v (.bool b),[],[],none⟩) (v := .bool b) j (by rw [hd];exact a4) (.inr ⟨λ_=>fU rfl,λh=>absurd trivial h⟩) (Ev.refl _ _ _) j.wr;(have e3:(St.after ⟨p,q⟩ o .always ⟨.v (.bool b),[],[],none⟩)=⟨Gl p z (some (.always,.v (.bool b))),q⟩:=by simp only [St.after,St.put,hd,iL]);rw [e3]at this;exact this
 rw [<- hl]at hh;exact hh
theorem AC.ent {f:FuncId} {args:List AV} {B:List Ob} {r k:AV} {B' y:List Ob} (h:AC P T N f args B r B') (g:uM T N 1 B.length (aN [(0,r)] (IK 0 B')) (aN [(0,k)] (IK 0 y))):AC P T N f args B k y:=by
 refine ⟨h.1,λI ρ w vs hl q hw=>(h.2 I ρ w vs hl q hw).mono ?_⟩;rintro e w' ⟨v,I',ρ',he,h1,h2,h3⟩;have hm:∀ B:List Ob,(aN [(0,r)] (IK 0 B)).m=yI B:=λB=>Fv B;have l:∀ B:List Ob,(aN [(0,k)] (IK 0 B)).m=yI B:=λB=>Fv B;have n:gy T N ⟨I,ρ,w,1,B.length,false⟩ I' ρ' (aN [(0,r)] (IK 0 B')) { tmps := #[v],defers:=[] } w':=by refine ⟨by rw [hm];exact h3,λt d x ht=>?_,rfl,⟨Marks.nil,λ_=>rfl⟩,h1,λid p hp=>?_⟩;{simp only [aN,ac6,adF]at ht;obtain ⟨x0,i,rfl,rfl⟩:=ht;simp only [oz]at i;cases hb:Nat.beq t 0 with| false=>(rw [hb]at i;cases i)| true=>rw [hb]at i;cases i;obtain rfl:=abM hb;exact ⟨λ_=>h2,λh=>absurd trivial h⟩};have:=hw.dom id p hp;cases id with| s a b=>exact absurd rfl this| b j=>refine ⟨j,?_,rfl⟩;(cases z:B[j]? with| none=>simp [yI,z]at this| some o=>exact (List.getElem?_eq_some_iff.1 z).1)
 obtain ⟨I2,u,c⟩:=g _ rfl rfl I' ρ' _ w' n;refine ⟨v,I2,u,he,c.ev,?_,?_⟩
 ·exact (c.tm 0 .always k rfl).1 trivial
 have:=c.wr;rwa [l]at this
end
section
variable {T:Nat->TI}
theorem sF {st:St} {id:Id} {B:zQ} (h:st.m id=some (.cells B):=by rfl) (hk:1<=B.n:=by exact aa4 _):∃ B,st.m id=some (.cells B)/\1<=B.n:=⟨B,h,hk⟩
theorem rpv {m:Id->Option Ob} {F:Id->Nat} {id:Id} {n i:Nat} {p:List Nat} {t:Nat} {y:AV} {B:zQ} (hm:m id=some (.cells B):=by rfl) (hn:B.n=n:=by rfl) (hF:i<F id:=by decide) (ht:aZ T B.ty p=some t:=by rfl) (b:(B.get i).at p=y:=by rfl) (a:fJ y=true:=by rfl):Conv m F T (.ptr id n i p) (.rp t y):=bG hm hn hF ht b a
theorem rq {Q:Prop} (h:Q:=by refine ⟨rfl,_,rfl,?_⟩;exact rpv):Q:=h
theorem q0 {Q:Nat->Prop} (h:Q 0):∀ q,q<1->Q q:=λq a=>by obtain rfl:q=0:=Nat.lt_one_iff.1 a;exact h
end
end Go.Ab
