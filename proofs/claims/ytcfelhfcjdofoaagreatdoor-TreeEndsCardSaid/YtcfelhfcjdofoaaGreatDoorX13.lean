/- Part 14 of a proof of a statement about the given program: an abstract machine over the model, proved sound, and contracts of the functions that the statement reaches; the last part proves the statement, for every input, with no condition. -/
import Derived.Test.YtcfelhfcjdofoaaGreatDoorX12
import Derived.RangeFuncSeq
import Derived.Shelf.Abstract
set_option autoImplicit false
set_option linter.unusedSimpArgs false
set_option linter.unusedVariables false
namespace Go.Ab
open Go.ChangeShapes Go.WideShapes Go.ChangeAt Go.RowKit
section
variable {P:Program} {T:Nat->TI} {N:Nat} {H:Type} {enc:TypeId×Value->H}
theorem Ag (hl:laidOutB P=true) {W f:World} (hb:Below W.heap.size W f):∀ {ts:List TypeId} {vs:List Value} {c:List (DataW H)} {a:List MemPlace},(ts.all λt=>P.readableRec t&&decide (t<P.types.size))=true->DataW.TrodAll enc P W 0 (λ_=>true) true ts vs c a->(∀ y∈a,y.block<W.heap.size) ->
 DataW.TrodAll enc P f 0 (λb=>decide (b<W.heap.size)) true ts vs c a
 | [],[],[],a,_,h,_=>h
 | [],_::_,_,_,_,h,_=>h.elim
 | [],[],_::_,_,_,h,_=>h.elim
 | _::_,[],_,_,_,h,_=>h.elim
 | _::_,_::_,[],_,_,h,_=>h.elim
 | t::ts,v::vs,d::c,a,ht,h,hlt=>by obtain ⟨p,q,g,i,rfl⟩:=h;simp only [List.all_cons,abe,ab9]at ht;exact ⟨p,q,Below.trod hl ht.1.1 ht.1.2 g hb (λy e=>hlt y (ad3 _ e)),Ag hl hb ht.2 i (λy e=>hlt y (ad9 _ e)),rfl⟩
theorem uG {W:World} {base:Nat} {sp:Nat->Bool} {held:Bool}:∀ {ts:List TypeId} {vs:List Value} {a:List (DataW H)} {b:List MemPlace},DataW.TrodAll enc P W base sp held ts vs a b->vs.length=ts.length/\a.length=ts.length
 | [],[],[],b,h=>⟨rfl,rfl⟩
 | [],_::_,_,_,h=>h.elim
 | [],[],_::_,_,h=>h.elim
 | _::_,[],_,_,h=>h.elim
 | _::_,_::_,[],_,h=>h.elim
 | t::ts,v::vs,d::a,b,h=>by obtain ⟨p,q,e,c,rfl⟩:=h;have:=uG c;simp [this.1,this.2]
theorem Ve (hl:laidOutB P=true) {f:FuncId} {fn:Func} {tb:TypeId} {s:ChangeSpec} {W:World} {args:Array Value} {m gs:List (DataW H)} {before:List MemPlace}
 (z:(fn.params.toList.all λt=>P.readableRec t&&decide (t<P.types.size))=true) (r:fn.resultTypes.toList=[tb]) (hb:P.underlying tb=some .bool) (l:s.vars=[])
 (c:∀ m:List (DataW H),m.length=fn.params.toList.length->s.fn H m={ results:=[.lit (.bool true)],args:=m})
 (a3:∀ (b o n:Nat),(T b).glb[o]? = some n->W.cell? ⟨b,o,none⟩=some (.int .u8 n)) (hW:DataW.Whole enc P fn.params.toList s.vars false W args.toList m gs before) {u:List AV} (a2:AC P T N f u [] (.bool true) []) (hlen:u.length=args.toList.length)
 (x:∀ (i:Nat) (a:AV) (v:Value),u[i]? = some a->args.toList[i]? = some v->gB T N (rQ W) iG a v) :
 Calls P f args W λe W' => ∃ v,e = .returned v/\s.post enc P fn false true false false W args v W':=by
 have g:=a2.2 (rQ W) iG W args.toList hlen.symm (λi a v h1 h2=>x i a v h1 h2) (sQ (λb o y h=>h) a3);rw [Array.toArray_toList]at g;refine g.mono ?_;rintro e W' ⟨v,I',ρ',rfl,j,hv,_⟩;have d:Below W.heap.size W W':=⟨j.os,j.tape.1,j.output,j.size,λk hk=>j.frame k hk (λid p hp=>by simp [iG]at hp)⟩
 have w:=hW;obtain ⟨p,q,hA,hV,rfl,_,_⟩:=hW;rw [l]at hV;obtain ⟨rfl,rfl⟩:=trodVars_none hV;have a4:∀ y∈p,y.block<W.heap.size:=λy hy=>w.lt y (ad3 _ hy)
 have a1:=Ag hl d z hA a4;obtain ⟨rfl,_⟩:=(hv.rep1 (λ_=>by simp)).v;have hsz:fn.resultTypes.size=1:=by
  have:=adb List.length r;simpa using this
 refine ⟨_,rfl,m,[],p++[],[],p,[],w,?_,?_,?_,d.frame _,λh=>by cases h⟩
 ·rw [adI,c m (uG hA).2,r,hsz];exact trodAll_mk1 (shut_bool hb true)
 ·rw [adI,c m (uG hA).2];exact a1
 ·rw [adI,c m (uG hA).2,l];rfl
end
section
variable {P:Program} {T:Nat->TI} {N:Nat}
theorem EJ {cs:List Value} {s n:Nat} (h:cs.length=n*s):∀ k,k<=n->(List.range k).flatMap (λi=>(cs.drop (i*s)).take s)=cs.take (k*s)
 | 0,_=>by simp
 | k+1,hk=>by rw [ad8,adY,EJ h k (by omega),adK,List.take_add];simp
theorem Dec.array (hT:jf P T N) {t n e:Nat} {α:Type} {enc:α->AV} {Q:α->Prop} (o:α) (hk:(T t).kind = .array n e) (hd:Dec P T N e enc Q):Dec P T N t (λl:List α => .agg t n (λi=>enc (l.getD i o))) (λl=>l.length=n /\ ∀ a∈l,Q a):=by
 intro H x w fuel cs d ps m;have k:=hT.lt (t:=t) (by rw [hk];simp);obtain ⟨dd,r,j,z⟩:=hT.und t k;rw [hk]at j;cases dd <;> simp only [kindOf,reduceCtorEq,TK.array.injEq]at j
 rename_i b c;obtain ⟨rfl,rfl⟩:=j;obtain ⟨he,hsz⟩:=hT.array t b c hk;cases fuel with
 | zero=>simp [DataW.trod]at m
 | succ fuel =>
  unfold DataW.trod at m
  rw [r]at m
  simp only [aeH,ade]at m
  obtain ⟨hlen,xs,s,_⟩:=m
  obtain ⟨_,p⟩:=mapM_at s
  rw [hT.cellsOf k,hsz]at hlen
  have q:=hT.cellsOf he
  have hex:∀ i,∃ a:α,i<b->Q a/\Rep T N (rQ w) iG (enc a) ((cs.drop (i*(T c).size)).take (T c).size)/\fit T c (enc a)=true:=by intro i;by_cases hi:i<b;{obtain ⟨y,_,u⟩:=p i i (by simp [hi]);rw [q]at u;obtain ⟨a,q1,q2,q3⟩:=hd H x w fuel _ y.1 y.2 u;exact ⟨a,λ_=>⟨q1,q2,q3⟩⟩};exact ⟨o,λh=>absurd h hi⟩
  have f:=λi=>adt (hex i)
  generalize hA:(λi=>Classical.choose (hex i))=A at f
  have g:∀ i,Classical.choose (hex i)=A i:=λi=>congrFun hA i
  have hg:∀ i,i<b->((List.range b).map A).getD i o=A i:=λi hi=>by simp [hi]
  refine ⟨(List.range b).map A,⟨by simp,λa v=>?_⟩,?_,by simp [fit,hk,TK.isAgg]⟩
  ·simp only [List.mem_map,adE]at v;obtain ⟨i,hi,rfl⟩:=v;have:=(f i hi).1;rwa [g]at this
  ·have:=Rep.array (T:=T) (N:=N) (I:=rQ w) (ρ:=iG) (t:=t) (n:=b) (get:=λi=>enc (((List.range b).map A).getD i o)) c (λi=>(cs.drop (i*(T c).size)).take (T c).size) hk k
    (λi hi=>by rw [hg i hi,<- g];exact (f i hi).2.1)
    (λi hi=>by rw [hg i hi,<- g];exact (f i hi).2.2)
    (
     λi hi=>by
     rw [adg,aeR,hlen]
     have:(i+1)*(T c).size<=b*(T c).size:=ab7 _ hi
     rw [adK]at this
     omega)
   rw [EJ hlen b (aa3 _),<- hlen,ad1]at this
   exact this
end
mutual
def PK (f:Id->Bool):AV->Bool
 | .v _=>true
 | .agg _ n get=>(List.range n).all λi=>PK f (get i)
 | .tup vs=>Qs f vs
 | .row .. => true
 | .own id _ _ _ _=>f id
 | .arr id _ _ _ _ _ _=>f id
 | .ptr id _ _ _=>f id
 | .rp .. => true
 | .clo _ caps=>Qs f caps
 | .mp id=>f id
def Qs (f:Id->Bool):List AV->Bool
 | []=>true
 | x::r=>PK f x&&Qs f r
end
theorem KR (f:Id->Bool):∀ l,Qs f l=l.all (PK f)
 | []=>rfl
 | x::r=>by simp [Qs,KR f r]
def acw (f:Id->Bool):Ob->Prop
 | .cells B => ∀ i,i<B.n->PK f (B.get i)=true
 | .map es => ∀ p∈es,PK f p.1=true/\PK f p.2=true
section
variable {P:Program} {T:Nat->TI} {N:Nat}
theorem Rep.renP {I:fK} {ρ:Pl} {x:AV} {cs:List Value} (h:Rep T N I ρ x cs):∀ {ρ':Pl} {f:Id->Bool} {d:Id->Id},(∀ id,f id=true->ρ' (d id)=ρ id)->PK f x=true->Rep T N I ρ' (Ab.ren d x) cs:=by
 induction h with| v h=>intro _ _ _ _ _;exact .v h| struct fs segs hk hn ht h hf hl g=>intro ρ' f d a hi;simp only [PK,adp,adE]at hi;simp only [Ab.ren];exact .struct fs segs hk hn ht (λi u k=>g i u k a (hi i (by rw [<- hn];exact (List.getElem?_eq_some_iff.1 k).1))) (λi u k=>by rw [xY];exact hf i u k) hl| array e segs hk ht h hf hl g=>intro ρ' f d a hi;simp only [PK,adp,adE]at hi;simp only [Ab.ren];exact .array e segs hk ht (λi j=>g i j a (hi i j)) (λi j=>by rw [xY];exact hf i j) hl| row b off cap segs he hc hm hfull h hf hl hI g=>intro _ _ _ _ _;exact .row b off cap segs he hc hm hfull h hf hl hI| row0 he=>intro _ _ _ _ _;exact .row0 he| rp b off seg ht h hf hl hI=>intro _ _ _ _ _;exact .rp b off seg ht h hf hl hI| own p hp hn hx1 hx=>intro ρ' f d a hi;exact .own p (by rw [a _ hi];exact hp) hn hx1 hx| own0=>intro _ _ _ _ _;exact .own0| arr p hp hn hx1 hx=>intro ρ' f d a hi;exact .arr p (by rw [a _ hi];exact hp) hn hx1 hx| ptr p hp hn hx1 hx=>intro ρ' f d a hi;exact .ptr p (by rw [a _ hi];exact hp) hn hx1 hx| clo ys hl h g=>intro ρ' f d a hi;simp only [PK,KR,adp]at hi;simp only [Ab.ren,BU];refine .clo ys (by simpa using hl) (λi c hc=>?_);simp only [ady,ade]at hc;obtain ⟨l,m,rfl⟩:=hc;exact g i l m a (hi l (ac8 m))| mp p hp hx1 hx=>intro ρ' f d a hi;exact .mp p (by rw [a _ hi];exact hp) hx1 hx
theorem dU.renP {I:fK} {ρ:Pl} {x:AV} {y:Value} (h:dU T N I ρ x y) {ρ':Pl} {f:Id->Bool} {b:Id->Id} (a:∀ id,f id=true->ρ' (b id)=ρ id) (hi:PK f x=true):dU T N I ρ' (Ab.ren b x) y:=by
 obtain ⟨cs,c,d⟩:=h;exact ⟨cs,c.renP a hi,by rw [JD];exact d⟩
theorem gB.renP {I:fK} {ρ:Pl} {x:AV} {y:Value} (h:gB T N I ρ x y) {ρ':Pl} {f:Id->Bool} {e:Id->Id} (a:∀ id,f id=true->ρ' (e id)=ρ id) (hi:PK f x=true):gB T N I ρ' (Ab.ren e x) y:=by
 cases h with| one h=>exact .one (h.renP a hi)| @tup vs ys hl h=>simp only [PK,KR,adp]at hi;simp only [Ab.ren,BU];refine .tup ys (by simpa using hl) (λi c hc=>?_);simp only [ady,ade]at hc;obtain ⟨b,d,rfl⟩:=hc;exact (h i b d).renP a (hi b (ac8 d))
def Vs (t:Nat->Option AV) (M:Id->Option Ob):St:=⟨λk=>(t k).map λx=>(.always,x),M⟩
theorem ZU (ts:List (Nat×AV)) (ms:List (Id×Ob)):aN ts ms=Vs (λk=>lW k ts) (λid=>ng id ms):=rfl
open Classical in
noncomputable def EF (f:Id->Bool) (b:Id->Id) (ρ:Pl):Pl:=λa=>if h:∃ id,f id=true/\b id=a then ρ (Classical.choose h)else none
theorem XV {f:Id->Bool} {c:Id->Id} {ρ:Pl} (d:∀ a b,f a=true->f b=true->c a=c b->a=b) {id:Id} (h:f id=true):EF f c ρ (c id)=ρ id:=by
 have hex:∃ e,f e=true/\c e=c id:=⟨id,h,rfl⟩;unfold EF;rw [dif_pos hex];have:=adt hex;rw [d _ _ this.1 h this.2]
theorem qO {f:Id->Bool} {b:Id->Id} {ρ:Pl} {a:Id} {p:Place} (h:EF f b ρ a=some p):∃ id,f id=true/\b id=a/\ρ id=some p:=by
 unfold EF at h;split at h
 ·rename_i hex;exact ⟨_,(adt hex).1,(adt hex).2,h⟩
 cases h
def acU (T:Nat->TI) (st:St) (F:Id->Nat) (f:Id->Bool) (c:Id->Id) (M:Id->Option Ob) (a:Id):Prop :=
 (∃ id o b,f id=true/\c id=a/\st.m id=some o/\ObC st.m F T (F id) o b/\acw f b/\M a=some (fG c b)) \/
 ((∀ id,f id=true->c id=a->st.m id=none)/\(M a=none \/ ∃ e get,M a=some (.cells ⟨e,0,get,0⟩)/\0<(T e).size))
def acT (T:Nat->TI) (st:St) (F:Id->Nat) (f:Id->Bool) (a:Id->Id) (k:Nat) (x':AV):Prop :=
 ∃ x y,st.t k=some (.always,x)/\Conv st.m F T x y/\PK f y=true/\x'=ren a y
theorem aar (hT:jf P T N) {e:Entry} {st:St} (F:Id->Nat) (f:Id->Bool) (σ:Id->Id) {t:Nat->Option AV} {M:Id->Option Ob} (hF:∀ id B,st.m id=some (.cells B)->F id<=B.n)
 (d0:∀ a b,f a=true->f b=true->σ a=σ b->a=b) (ht:∀ k x',t k=some x'->acT T st F f σ k x') (hm:∀ r,acU T st F f σ M r) (hb:∀ j,j<e.nb->f (.b j)=true/\σ (.b j) = .b j)
 {I:fK} {ρ:Pl} {a:Act} {w:World} (hs:gJ T N e I ρ st a w):∃ I' ρ',gJ T N e I' ρ' (Vs t M) a w:=by
 have hw:=hs.wr;have f1:∀ {b o:Nat},(∃ id q B,ρ id=some q/\st.m id=some (.cells B)/\q.b=b/\o<F id*(T B.ty).size) -> ∃ id q B cs,ρ id=some q/\st.m id=some (.cells B)/\q.b=b/\o<F id*(T B.ty).size/\w.heap[b]? = some (.cells cs B.ty (0,0))/\o<cs.size/\w.cell? ⟨b,o,none⟩=cs[o]? := by
  rintro b o ⟨id,q,B,s,g,rfl,h4⟩;obtain ⟨q',cs,c1,c2,c3,c4,c5,c6,c7,c8,c9,f6⟩:=hw.cellsAt g s;rw [s]at c1;cases c1;have:F id*(T B.ty).size<=B.n*(T B.ty).size:=ab7 _ (hF _ _ g)
  exact ⟨id,q,B,cs,s,g,rfl,h4,c5,by omega,by simp [World.cell?,c5]⟩
 have hI:iK I (yK T I ρ st.m w F):=by
  intro b o y h;unfold yK;split
  ·exact hw.imm b o y h
  ·exact h
 have hS:=LD hT hw hI (F:=F) (λid B q cs s g z=>⟨hF _ _ s,λj hj=>by
  unfold yK;rw [aaU ⟨id,q,B,g,s,rfl,hj⟩];simp [World.cell?,z]⟩)
 have l:∀ id,f id=true->EF f σ ρ (σ id)=ρ id:=λid h=>XV d0 h;have b1:∀ {r:Id},(∀ id,f id=true->σ id=r->st.m id=none)->EF f σ ρ r=none:=λ{r} h=>by
  cases hp:EF f σ ρ r with
  | none=>rfl
  | some p =>
   obtain ⟨id,s,g,z⟩:=qO hp;exact absurd (h id s g) (hw.dom id p z)
 refine ⟨yK T I ρ st.m w F,EF f σ ρ,⟨⟨?_,?_,?_,?_,?_,λb o n h=>hI _ _ _ (hw.gl b o n h)⟩,?_,hs.nt,⟨hs.df.1.sub (λid p hp=>(qO hp).elim λid0 h=>⟨id0,h.2.2⟩),hs.df.2⟩,?_,hs.eb⟩⟩
 ·intro r B' c;have c:M r=some (.cells B'):=c
  rcases hm r with ⟨id,o,o1,a2,rfl,s,g,a6,z⟩ | ⟨s,g⟩
  ·rw [z]at c;cases o with
   | map es=>rcases g with g | ⟨b9,g,_⟩ <;> (subst g;cases c)
   | cells B =>
    obtain ⟨get,fz,rfl,h4,h5,h6,h7⟩:=g;simp only [fG,abf,Ob.cells.injEq]at c;subst c;rcases hw.cells id B s with ⟨d1,d2,d3,d4⟩ | ⟨p,cs,d1,d2,d3,d4,d5,d6,d7,d8,d9,d10⟩
    ·exact .inl ⟨by rw [l id a2];exact d1,d2,by simp only;omega,d4⟩
    ·refine .inr ⟨p,cs,by rw [l id a2];exact d1,d2,d3,d4,d5,d6,d7,λi hi=>?_,λj hj=>?_,h6⟩
     ·obtain ⟨seg,e1,e2,e3,e4⟩:=d8 i hi;obtain ⟨g1,g2⟩:=e1.cv hI hS (λ_ _ h=>h) _ (h7 i hi);exact ⟨seg,g1.renP l (a6 i hi),by rw [xY,g2];exact e2,e3,e4⟩
     ·unfold yK at hj;split at hj
      ·rename_i a1;obtain ⟨a3,q2,B2,k1,k2,k3,k4⟩:=a1;have:=hw.inj a3 id q2 p k1 d1 k3
       subst this;rw [s]at k2;cases k2;exact adC k4 (ab7 _ h5)
      ·exact adC (d9 j hj) (ab7 _ h4)
  ·rcases g with g | ⟨e',get,g,z⟩
   ·rw [g]at c;cases c
   ·rw [g]at c;cases c;exact .inl ⟨b1 s,rfl,rfl,hT.lt_size z⟩
 ·intro r b9 c;have c:M r=some (.map b9):=c
  rcases hm r with ⟨id,o,o1,a2,rfl,s,g,a6,z⟩ | ⟨s,g⟩
  ·rw [z]at c;cases o with
   | cells B=>obtain ⟨get,fz,rfl,_⟩:=g;cases c
   | map es =>
    obtain ⟨p,en,cl,d1,d2,d3,d4,d5,d6⟩:=hw.maps id es s;have c0:∀ j,yK T I ρ st.m w F p.b j=none:=by
     intro j;unfold yK;split
     ·rename_i a1;obtain ⟨a3,q2,B2,k1,k2,k3,k4⟩:=a1;have:=hw.inj a3 id q2 p k1 d1 k3
      subst this;rw [s]at k2;cases k2
     ·exact d5 j
    rcases g with g | ⟨f9,g,h4,h5⟩
    ·subst g;simp only [fG,abf,Ob.map.injEq]at c;subst c;refine ⟨p,en,cl,by rw [l id a2];exact d1,d2,d3,by simpa using d4,c0,λi k v hi=>?_⟩;simp only [ady,ade,adJ]at hi;obtain ⟨pp,hi,rfl,rfl⟩:=hi;obtain ⟨e,e1,e2,e3⟩:=d6 i pp.1 pp.2 hi;have:=a6 _ (ac8 hi)
     exact ⟨e,e1,(e2.mono hI (iJ.refl _)).renP l this.1,(e3.mono hI (iJ.refl _)).renP l this.2⟩
    ·subst g;simp only [fG,abf,Ob.map.injEq]at c;subst c;refine ⟨p,en,cl,by rw [l id a2];exact d1,d2,d3,by simp [h4,d4],c0,λi k v hi=>?_⟩;simp only [ady,ade,adJ]at hi;obtain ⟨p1,hi,rfl,rfl⟩:=hi;obtain ⟨pp,k1,k2,k3⟩:=h5 i _ hi;obtain ⟨e,e1,e2,e3⟩:=d6 i pp.1 pp.2 k1;have:=a6 _ (ac8 hi)
     exact ⟨e,e1,(e2.conv hI hS k2).renP l this.1,(e3.conv hI hS k3).renP l this.2⟩
  ·rcases g with g | ⟨e',get,g,z⟩ <;> (rw [g]at c;cases c)
 ·intro r p hp;obtain ⟨id,s,g,z⟩:=qO hp;have hd:=hw.dom id p z
  rcases hm r with ⟨_,_,_,_,_,_,_,_,h4⟩ | ⟨h4,_⟩
  ·show M r≠none;rw [h4];simp
  ·exact absurd (h4 id s g) hd
 ·intro i j p q hp hq h;obtain ⟨id,s,g,z⟩:=qO hp;obtain ⟨a3,k1,k2,k3⟩:=qO hq;have:=hw.inj id a3 p q z k3 h
  subst this;rw [<- g,<- k2]
 ·intro b o y hy;unfold yK at hy;split at hy
  ·exact hy
  ·exact hw.imm b o y hy
 ·intro k d x hx;simp only [Vs,ade,adJ]at hx;obtain ⟨x0,s,rfl,rfl⟩:=hx;obtain ⟨x,y,g,z,h4,rfl⟩:=ht k x0 s;refine ⟨λ_=>?_,λh=>absurd trivial h⟩;exact (((hs.tm k _ _ g).1 trivial).conv hI hS z).renP l h4
 ·have u:=hs.ev;refine ⟨u.imm.trans hI,λb o h h'=>?_,λid p hp=>?_,λr p hp=>?_,u.frame,u.size,u.os,u.output,u.tape⟩
  ·unfold yK at h';split at h'
   ·rename_i a1;obtain ⟨id,q,B,k1,k2,rfl,k4⟩:=a1;exact u.plN id q k1
   ·exact u.immN b o h h'
  ·obtain ⟨j,hj,rfl⟩:=hs.eb id p hp;obtain ⟨s,g⟩:=hb j hj;obtain ⟨p',z,h4⟩:=u.pl _ p hp;have:=l _ s
   rw [g]at this;exact ⟨p',by rw [this];exact z,h4⟩
  ·obtain ⟨id,s,g,z⟩:=qO hp;exact u.plN id p z
theorem uY.gen {nt nb:Nat} (hT:jf P T N) {st:St} (F:Id->Nat) (f:Id->Bool) (c:Id->Id) {t:Nat->Option AV} {M:Id->Option Ob} (hF:∀ id B,st.m id=some (.cells B)->F id<=B.n)
 (d:∀ a b,f a=true->f b=true->c a=c b->a=b) (ht:∀ k x',t k=some x'->acT T st F f c k x') (hm:∀ g,acU T st F f c M g) (hb:∀ j,j<nb->f (.b j)=true/\c (.b j) = .b j):uY T N nt nb st (Vs t M) :=
 λe l h I ρ a w i=>aar hT F f c hF d ht hm (by rw [h];exact hb) i
end
section
variable {P:Program} {T:Nat->TI} {N:Nat}
structure Grown (A B:World):Prop where
 size:A.heap.size<=B.heap.size
 same:∀ b,b<A.heap.size->B.heap[b]? = A.heap[b]?
 os:B.os=A.os
 output:B.output=A.output
 tape:B.tape=A.tape/\A.drawn<=B.drawn
theorem Grown.refl (A:World):Grown A A:=⟨aa3 _,λ_ _=>rfl,rfl,rfl,rfl,aa3 _⟩
theorem Grown.trans {A B C:World} (h:Grown A B) (k:Grown B C):Grown A C :=
 ⟨aej h.size k.size,λb hb=>(k.same b (adC hb h.size)).trans (h.same b hb),k.os.trans h.os,k.output.trans h.output,k.tape.1.trans h.tape.1,aej h.tape.2 k.tape.2⟩
theorem Grown.heap {A B:World} (h:Grown A B) {b:Nat} {o:Obj} (hb:A.heap[b]? = some o):B.heap[b]? = some o :=
 (h.same b (Array.getElem?_eq_some_iff.1 hb).1).trans hb
theorem Grown.cell {A B:World} (h:Grown A B) {a:Addr} {y:Value} (hc:A.cell? a=some y):B.cell? a=some y:=by
 unfold World.cell? at hc ⊢;cases hb:A.heap[a.block]? with| none=>(rw [hb]at hc;cases hc)| some o=>rw [hb]at hc;rw [h.heap hb];exact hc
theorem Grown.of_ev {I I':fK} {ρ':Pl} {w w':World} (h:Ev I iG w I' ρ' w'):Grown w w' :=
 ⟨h.size,λb hb=>h.frame b hb (λid p hp=>by cases hp),h.os,h.output,h.tape⟩
theorem Grown.alloc (w:World) (o:Obj):Grown w (w.alloc o) :=
 ⟨by simp,λb hb=>fM w o hb,rfl,rfl,rfl,aa3 _⟩
def acS (T:Nat->TI) (I:fK) (W:World):Prop:=(∀ b o y,I b o=some y->W.cell? ⟨b,o,none⟩=some y) /\ ∀ (b o n:Nat),(T b).glb[o]? = some n->I b o=some (.int .u8 n)
end
section
variable {P:Program} {T:Nat->TI} {N:Nat}
end
section
variable {P:Program} {T:Nat->TI} {N:Nat}
theorem YG (hT:jf P T N) (hE:wZ P T N) {e:Entry} {ops:Array Oper} {Q:Exit->Act->World->Prop} {l2:List Oper} (rd:Option Nat) (n:Nat):∀ (l:List Oper) (s s':RS) {I:fK} {ρ:Pl} {a:Act} {w:World},gJ T N e I ρ s.st a w ->
 VK T (AC P T N) e.nt ops.toList l s=some s'->ay s'.c->(∀ I' ρ' i w',gJ T N e I' ρ' s'.st i w'->wpListIn (l9 rd) n P ops Q l2 i w')->ay s.c/\wpListIn (l9 rd) n P ops Q (l++l2) a w
 | [],s,s',I,ρ,a,w,hs,h,hc,hQ=>by cases h;exact ⟨hc,hQ _ _ _ _ hs⟩
 | o::r,s,s',I,ρ,a,w,hs,h,hc,hQ=>by simp only [VK,aaC]at h;obtain ⟨G,m,x,p,d⟩:=h;obtain ⟨k,d⟩:=aB d;have key:∀ {I':fK} {ρ':Pl} {i:Act} {w':World},gJ T N e I' ρ' (s.st.after o G x.1) i w'->ay (fP s.c x.1.c)/\wpListIn (l9 rd) n P ops Q (r++l2) i w':=λg=>YG hT hE rd n r _ s' g d hc hQ;(have f:ay (fP s.c x.1.c):=by clear key;(have:∀ (l:List Oper) (j:RS),VK T (AC P T N) e.nt ops.toList l j=some s'->ay j.c:=by intro l;induction l with| nil=>intro j h;cases h;exact hc| cons o r q=>intro j h;simp only [VK,aaC]at h;obtain ⟨G,m,x,p,d⟩:=h;obtain ⟨_,d⟩:=aB d;have:=q _ d;simp only at this;rw [aI]at this;exact this.1);exact this _ _ d);rw [aI]at f;refine ⟨f.1,?_⟩;have b:=Aw (ops:=ops) (Q:=Q) (K:=wpListIn (l9 rd) n P ops Q (r++l2)) hT hE hs m p f.2 k (λI' ρ' i w' g=>(key g).2) rd n;rw [List.cons_append];unfold wpListIn;by_cases hw:Region.wanted o (yielded ops a.tmps)=true;{rw [aaU hw]at b ⊢;exact b};rw [Y0 hw]at b ⊢;exact ⟨λ_ _=>trivial,b⟩
def EY (T:Nat->TI) (N nt:Nat) {α:Type} (J:List α->(Nat->Prop)->World->Prop) (I:fK) (pre:List α) (t:Nat->Option (D×AV)) (a:Act) (W:World):Prop :=
 ∃ Y d c,J pre Y d/\Grown d W/\gJ T N ⟨c,iG,W,nt,0,true⟩ c iG ⟨t,λ_=>none⟩ a W /\ ∀ b o y,c b o=some y->I b o=some y\/¬ Y b
theorem EY.mk {nt:Nat} {α:Type} {J:List α->(Nat->Prop)->World->Prop} (q:∀ pre Y A b,J pre Y A->Y b->b<A.heap.size) {I:fK} {pre:List α} {Y:Nat->Prop} {c W e:World} {d I':fK} {ρ':Pl} {t:Nat->Option (D×AV)} {f:Act}
 (m:J pre Y c) (hg:Grown c W) (i:∀ b o y,d b o=some y->I b o=some y\/¬ Y b) (a:gJ T N ⟨d,iG,W,nt,0,true⟩ I' ρ' ⟨t,λ_=>none⟩ f e):EY T N nt J I pre t f e:=by
 have l:ρ'=iG:=funext λid=>by
  cases h:ρ' id with
  | none=>rfl
  | some p=>exact absurd rfl (a.wr.dom id p h)
 subst l;have k:Grown W e:=Grown.of_ev a.ev
 refine ⟨Y,c,I',m,hg.trans k,⟨a.wr,a.tm,a.nt,?_,Ev.refl _ _ _,λid p hp=>by cases hp⟩,λb o y n=>?_⟩
 ·have:f.defers=[]:=a.df.2 rfl;rw [this];exact ⟨Marks.nil,λ_=>rfl⟩
 ·cases h:d b o with
  | some z =>
   have g:=a.ev.imm b o z h;rw [n]at g;cases g;exact i b o y h
  | none =>
   rcases a.ev.immN b o h (by rw [n];simp)with ⟨id,p,hp,_⟩ | hb
   ·cases hp
   ·refine .inr λj=>?_;have s:=q pre Y c b m j
    have g:=hg.size;have r:W.heap.size<=b:=hb
    omega
theorem EY.ent {nt:Nat} {α:Type} {J:List α->(Nat->Prop)->World->Prop} (j:∀ pre Y A b,J pre Y A->Y b->b<A.heap.size) {I:fK} {pre:List α} {t t':Nat->Option (D×AV)} {a:Act} {W:World}
 (hi:EY T N nt J I pre t a W) (h:uY T N nt 0 ⟨t,λ_=>none⟩ ⟨t',λ_=>none⟩):EY T N nt J I pre t' a W:=by
 obtain ⟨Y,m,d,e,f,g,i⟩:=hi;obtain ⟨l,k,c⟩:=h ⟨d,iG,W,nt,0,true⟩ rfl rfl d iG a W g;exact EY.mk j e f i c
theorem EY.cond {nt:Nat} {α:Type} {J:List α->(Nat->Prop)->World->Prop} {I:fK} {pre:List α} {t:Nat->Option (D×AV)} {a:Act} {W:World} {c:Operand} {x y:Code} {Q:Exit->Act->World->Prop} {n:Nat} {b:Bool}
 (hi:EY T N nt J I pre t a W) (hc:ev ⟨t,λ_=>none⟩ c=some (.always,.v (.bool b))) (d:b=true->x.wpIn (l9 none) n P Q a W) (e:b=false->y.wpIn (l9 none) n P Q a W):(Code.cond c x y).wpIn (l9 none) n P Q a W:=by
 obtain ⟨Y,h,g,i,j,f,k⟩:=hi;exact wpIn_cond_split ((zu f hc trivial).v).1 d e
theorem EY.start {fn:Func} {α:Type} {J:List α->(Nat->Prop)->World->Prop} {I:fK} {f:Nat->Prop} {W:World} {args:List AV} {vs:List Value} (j:J [] f W) (hI:acS T I W) (hl:vs.length=args.length) (l:args.length<=fn.ntmps)
 (e:∀ (i:Nat) (x:AV) (v:Value),args[i]? = some x->vs[i]? = some v->gB T N I iG x v) :
 EY T N fn.ntmps J I [] (λk=>(args[k]?).map λx=>(.always,x)) { tmps:=vs.toArray++Array.replicate (fn.ntmps - vs.toArray.size) undef,defers:=[] } W:=by
 have hw:dY T N I iG (λ_=>none) W:=by have:=sQ (T:=T) (N:=N) hI.1 hI.2;rwa [show yL []=λ_=>none from funext λid=>by cases id <;> simp [yL]]at this
 refine ⟨f,W,I,j,Grown.refl W,⟨hw,λk d x ht=>?_,by simp [hl];omega,⟨Marks.nil,λ_=>rfl⟩,Ev.refl _ _ _,λid p hp=>by cases hp⟩,λb o y h => .inl h⟩;simp only [ade,adJ]at ht;obtain ⟨m,g,rfl,rfl⟩:=ht;have c:k<vs.length:=by rw [hl];exact (List.getElem?_eq_some_iff.1 g).1
 refine ⟨λ_=>?_,λh=>absurd trivial h⟩;have a:(vs.toArray++Array.replicate (fn.ntmps - vs.toArray.size) undef).getD k undef=vs[k]:=by simp [Array.getElem?_append,c]
 simp only [a];exact e k m _ g (aaR c)
def Rounds (P:Program) {α:Type} (l M:Nat) (encs:α->Array Value) (J:List α->(Nat->Prop)->World->Prop) (I:fK):Prop :=
 ∀ pre x Y d a,J pre Y d->Grown d a->pre.length<M -> ∀ n,YieldAt Fence.wide n P l (encs x) a λe c=>e = .returned (.bool true) /\
  (∃ f,J (pre++[x]) f c /\ ∀ b,f b->Y b\/a.heap.size<=b)/\(∀ b o y,I b o=some y->a.cell? ⟨b,o,none⟩=some y->c.cell? ⟨b,o,none⟩=some y) /\
  (∀ b,b<a.heap.size->¬ Y b->c.heap[b]? = a.heap[b]?)/\a.heap.size<=c.heap.size
theorem EY.yield {nt:Nat} {α:Type} {J:List α->(Nat->Prop)->World->Prop} (hY:∀ pre Y A b,J pre Y A->Y b->b<A.heap.size) {I:fK} {pre:List α} {t:Nat->Option (D×AV)} {a:Act} {W:World} {Q:Exit->Act->World->Prop} {n:Nat}
 {o:Oper} {r:List Oper} {ops:Array Oper} {c:Call} {fo xo:Operand} {d l M:Nat} {G G1 G2:D} {xv:Value} {x:α} {encs:α->Array Value}
 (hr:Rounds P l M encs J I) (hi:EY T N nt J I pre t a W) (a0:o.op = .call c) (w:c.callee = .value fo) (q:c.args = #[xo]) (f:o.dst=some d) (hd:d<nt)
 (hg:oK ops.toList ⟨t,λ_=>none⟩ o=some G) (a6:ev ⟨t,λ_=>none⟩ fo=some (G1,.v (.func (.yield l) #[] #[]))) (h1:G.tr->G1.tr) (a8:ev ⟨t,λ_=>none⟩ xo=some (G2,.v xv)) (h2:G.tr->G2.tr)
 (hx:G.tr->encs x = #[xv]) (hM:G.tr->pre.length<M)
 (a2:G.tr -> ∀ u m,EY T N nt J I (pre++[x]) (Gt t d (some (G,.v (.bool true)))) u m->wpListIn (l9 none) n P ops Q r u m)
 (a7:¬ G.tr -> ∀ u,EY T N nt J I pre (Gt t d (some (G,.v (.bool true)))) u W->wpListIn (l9 none) n P ops Q r u W) :
 wpListIn (l9 none) n P ops Q (o::r) a W:=by
 obtain ⟨Y,Wp,Im,k1,k2,g,k4⟩:=hi;have i:=vJ g hg
 have z:d<a.tmps.size:=by rw [g.nt];exact hd
 unfold wpListIn;by_cases j:G.tr
 ·rw [aaU (i.1 j)];refine ⟨λ_ _=>trivial,?_⟩;rw [Oper.semAt_eq _ _ _ (by simp [a0])];obtain ⟨fn,tmps,assign,body,hy,hR⟩:=hr pre x Y Wp W k1 k2 (hM j) (n - 1);rw [hx j]at hy;have e1:=((zu g a6 (h1 j)).v).1
  have e2:=((zu g a8 (h2 j)).v).1;have a1:(execOp a.eval o).run P W = .ok (.round l fn tmps assign body) W:=by
   unfold execOp;rw [a0];simp only [resolve,w,e1,q,List.map_toArray,aeh,List.map_nil,e2];simp [go_sem,hy]
  rw [a1];refine ⟨λh=>(by cases h),RoundIn.mono hR ?_⟩;rintro e m ⟨rfl,⟨Y',j1,j2⟩,j3,j4,j5⟩;refine a2 j _ m ⟨Y',m,Im,j1,Grown.refl m,⟨?_,λk d2 y ht=>?_,?_,?_,Ev.refl _ _ _,λid p hp=>by cases hp⟩,λb o2 y h=>?_⟩
  ·have:dY T N Im iG (yL []) m:=sQ (λb o2 y h=>by
    have hc:=g.wr.imm b o2 y h;rcases k4 b o2 y h with hI | s
    ·exact j3 b o2 y hI hc
    ·unfold World.cell? at hc ⊢;cases hb:W.heap[b]? with
     | none=>simp only [hb]at hc;cases hc
     | some ob =>
      simp only [hb]at hc;have:=j4 b (Array.getElem?_eq_some_iff.1 hb).1 s
      simp only [this,hb];exact hc) g.wr.gl
   rwa [show yL []=λ_=>none from funext λid=>by cases id <;> simp [yL]]at this
  ·rw [f,Gm z];simp only [Gt]at ht;by_cases hk:k=d
   ·subst hk;rw [aeY,adv]at ht;cases ht;rw [aaU rfl];exact ⟨λ_=>fZ rfl,λh=>absurd j h⟩
   ·rw [kJ hk,ads]at ht;rw [Y0 hk];exact g.tm k d2 y ht
  ·rw [<- g.nt,f];simp [Act.put]
  ·have:a.defers=[]:=g.df.2 rfl;rw [f];simp only [Act.put];rw [this];exact ⟨Marks.nil,λ_=>rfl⟩
  ·rcases k4 b o2 y h with hI | s
   ·exact .inl hI
   ·refine .inr λa5=>?_;rcases j2 b a5 with h' | h'
    ·exact s h'
    ·have:=lQ (g.wr.imm b o2 y h);omega
 ·rw [Y0 (λe=>j (i.2 e))];refine ⟨λ_ _=>trivial,a7 j _ ⟨Y,Wp,Im,k1,k2,⟨g.wr,λk d2 y ht=>?_,?_,?_,g.ev,g.eb⟩,k4⟩⟩
  ·rw [f,Gm z];simp only [Gt]at ht;by_cases hk:k=d
   ·subst hk;rw [aeY,adv]at ht;cases ht;rw [aaU rfl];exact ⟨λh=>absurd h j,λ_=>rfl⟩
   ·rw [kJ hk,ads]at ht;rw [Y0 hk];exact g.tm k d2 y ht
  ·rw [<- g.nt,f];simp [Act.put]
  ·rw [f];exact g.df
end
section
variable {P:Program} {T:Nat->TI} {N nt:Nat} {α:Type} {J:List α->(Nat->Prop)->World->Prop} {I:fK} {pre:List α} {t t':Nat->Option (D×AV)} {a:Act} {W:World} {Q:Exit->Act->World->Prop} {n:Nat} {ops:Array Oper}
theorem EY.begins (hT:jf P T N) (hE:wZ P T N) (p:∀ pre Y A b,J pre Y A->Y b->b<A.heap.size) {g l2:List Oper} (gs:List CG) {e:List CG} {c:Option Prop} (hi:EY T N nt J I pre t a W) (h:Zc T (AC P T N) nt ops.toList g t (λ_=>none) gs none=some ⟨⟨t',λ_=>none⟩,e,c⟩) (hc:ay c)
 (o:∀ d i,EY T N nt J I pre t' d i->wpListIn (l9 none) n P ops Q l2 d i):wpListIn (l9 none) n P ops Q (g++l2) a W:=by
 obtain ⟨Y,r,q,j,k,l,m⟩:=hi;rw [LM]at h;exact (YG hT hE none n g ⟨⟨t,λ_=>none⟩,gs,none⟩ _ l h hc (λI' ρ' d w' f=>o d w' (EY.mk p j k m f))).2
theorem EY.ends (hT:jf P T N) (hE:wZ P T N) (j:∀ pre Y A b,J pre Y A->Y b->b<A.heap.size) {g:List Oper} (gs:List CG) {d:List CG} {c:Option Prop} (hi:EY T N nt J I pre t a W) (h:Zc T (AC P T N) nt ops.toList g t (λ_=>none) gs none=some ⟨⟨t',λ_=>none⟩,d,c⟩) (hc:ay c)
 (i:∀ f e,EY T N nt J I pre t' f e->Q .normal f e):wpListIn (l9 none) n P ops Q g a W:=by
 have:=EY.begins (l2:=[]) (Q:=Q) (n:=n) hT hE j gs hi h hc i
 rwa [adI]at this
theorem EY.val (hi:EY T N nt J I pre t a W) {k:Nat} {x:Value} (h:t k=some (.always,.v x)):a.tmps.getD k undef=x:=by
 obtain ⟨Y,d,c,e,f,b,g⟩:=hi;exact (((b.tm k _ _ h).1 trivial).v).1
theorem EY.fin {fn:Func} {S:List α->Prop} (hi:EY T N nt J I pre t a W) (g:S pre) (b:fn.results = #[]) :
 a.defers=[] /\ ∃ v,(results fn a.tmps).run P W = .ok v W/\(∃ h,(Ending.returned v) = .returned h) /\ ∃ xs Y c,S xs/\J xs Y c/\Grown c W:=by
 obtain ⟨Y,c,i,d,e,f,j⟩:=hi;refine ⟨f.df.2 rfl,.tuple #[],?_,⟨_,rfl⟩,pre,Y,c,g,d,e⟩;simp [results,b]
end
mutual
theorem zN (ids:List Id):∀ x,PK (gX ids) x=fH ids x
 | .v _=>rfl
 | .agg _ n get=>by simp only [PK,fH];congr 1;funext i;exact zN ids (get i)
 | .tup vs=>Ho ids vs
 | .row .. => rfl
 | .own .. => rfl
 | .arr .. => rfl
 | .ptr .. => rfl
 | .rp .. => rfl
 | .clo _ caps=>Ho ids caps
 | .mp _=>rfl
theorem Ho (ids:List Id):∀ l,Qs (gX ids) l=AX ids l
 | []=>rfl
 | x::r=>by simp only [Qs,AX,zN ids x,Ho ids r]
end
theorem XI {ids:List Id} {o:Ob} (h:okO ids o):acw (gX ids) o:=by
 cases o with| cells B=>(exact λi hi=>by rw [zN];exact h i hi)| map es=>exact λp hp=>⟨by rw [zN];exact (h p hp).1,by rw [zN];exact (h p hp).2⟩
section
variable {P:Program} {T:Nat->TI} {N:Nat}
def acV (T:Nat->TI) (st:St) (F:List (Id×Nat)) (all:List Id) (id:Id) (b:Ob):Prop :=
 (∃ o a,st.m id=some o/\ObC st.m (λid=>dX id F) T (dX id F) o a/\okO all a/\b=fG (sig all 0) a)\/(st.m id=none /\ ∃ e get,b = .cells ⟨e,0,get,0⟩/\0<(T e).size)
def TB (T:Nat->TI) (st:St) (F:List (Id×Nat)) (all:List Id):List Id->List Ob->Prop
 | [],[]=>True
 | id::r,o::s=>acV T st F all id o/\TB T st F all r s
 | _,_=>False
def TA (T:Nat->TI) (st:St) (F:List (Id×Nat)) (all:List Id):List (Nat×AV)->Prop
 | []=>True
 | (k,x')::r=>(∃ x y,st.t k=some (.always,x)/\Conv st.m (λid=>dX id F) T x y/\fH all y=true/\x'=ren (sig all 0) y)/\TA T st F all r
theorem O3 {st:St} {F:List (Id×Nat)} {all:List Id}:∀ {ids:List Id} {B:List Ob},TB T st F all ids B->B.length=ids.length /\ ∀ (i:Nat) (id:Id) (o:Ob),ids[i]? = some id->B[i]? = some o->acV T st F all id o
 | [],[],_=>⟨rfl,λi id o h=>by simp at h⟩
 | [],_::_,h=>h.elim
 | _::_,[],h=>h.elim
 | id::r,o::s,h=>by obtain ⟨c,d⟩:=O3 h.2;refine ⟨by simp [c],λi b e hi a=>?_⟩;cases i with| zero=>simp at hi a;subst hi a;exact h.1| succ i=>exact d i b e (by simpa using hi) (by simpa using a)
theorem OZ {st:St} {F:List (Id×Nat)} {all:List Id}:∀ {ts:List (Nat×AV)} {k:Nat} {x':AV},TA T st F all ts->(k,x')∈ts -> ∃ x y,st.t k=some (.always,x)/\Conv st.m (λid=>dX id F) T x y/\fH all y=true/\x'=ren (sig all 0) y
 | [],_,_,_,h=>by cases h
 | (j,y)::r,k,x,h,hm=>by cases hm with| head=>exact h.1| tail _ hm=>exact OZ h.2 hm
theorem uY.toB (hT:jf P T N) {nt:Nat} {st:St} (F:List (Id×Nat)) (ids:List Id) {ts:List (Nat×AV)} {B:List Ob} (hF:IC st F) (f:distinct ids=true) (ht:TA T st F ids ts) (hm:TB T st F ids ids B):uY T N nt 0 st (Vs (λk=>lW k ts) (yL B)):=by
 have c:ids.Nodup:=by clear ht hm;induction ids with| nil=>exact List.nodup_nil| cons a r ih=>simp only [distinct,abe,aeK]at f;refine List.nodup_cons.2 ⟨λh=>?_,ih f.2⟩;rw [jq.2 h]at f;(cases f.1)
 obtain ⟨hlen,a0⟩:=O3 hm;refine uY.gen hT (λid=>dX id F) (gX ids) (sig ids 0) (λid B hB=>FX hF hB) (λa b ha hb n=>?_) (λk x' hk=>?_) (λt=>?_) (λj d=>absurd d (Nat.not_lt_zero _))
 ·obtain ⟨i,hi⟩:=adw (jq.1 ha);obtain ⟨j,d⟩:=adw (jq.1 hb);rw [DF c hi,DF c d]at n;cases n;rw [hi]at d;cases d;rfl
 ·obtain ⟨x,y,h1,m,h3,h4⟩:=OZ ht (Bg hk);exact ⟨x,y,h1,m,by rw [zN];exact h3,h4⟩
 by_cases hex:∃ i id,ids[i]? = some id/\t = .b i;{obtain ⟨i,id,hi,rfl⟩:=hex;(have g:i<B.length:=by rw [hlen];exact (List.getElem?_eq_some_iff.1 hi).1);have hb:=a0 i id B[i] hi (aaR g);have q:gX ids id=true:=jq.2 (ac8 hi);rcases hb with ⟨o,o1,g1,v,w,z⟩ | ⟨g1,v⟩;{refine .inl ⟨id,o,o1,q,DF c hi,g1,v,XI w,?_⟩;show B[i]? = _;rw [aaR g,z]};refine .inr ⟨λu m l=>?_,.inr ?_⟩;{obtain ⟨j,d⟩:=adw (jq.1 m);rw [DF c d]at l;cases l;rw [hi]at d;cases d;exact g1};obtain ⟨e,get,w,z⟩:=v;refine ⟨e,get,?_,z⟩;show B[i]? = _;rw [aaR g,w]};refine .inr ⟨λu m l=>?_,.inl ?_⟩;{obtain ⟨j,d⟩:=adw (jq.1 m);rw [DF c d]at l;exact absurd ⟨j,u,d,l.symm⟩ hex};cases t with| s a b=>rfl| b j=>show B[j]? = none;rw [List.getElem?_eq_none_iff];apply Nat.le_of_not_lt;intro p;rw [hlen]at p;exact hex ⟨j,ids[j],aaR p,rfl⟩
end
end Go.Ab
namespace Go.Ab
section
variable {P:Program} {T:Nat->TI} {N:Nat}
theorem FV (hT:jf P T N) {nt:Nat} {st:St} (F:List (Id×Nat)) (ids:List Id) {ts:List (Nat×AV)} {B:List Ob} {rs:List ResultVar} {r:AV} {l:List AV} (hF:IC st F) (a:distinct ids=true) (ht:TA T st F ids ts) (hm:TB T st F ids ids B) (hl:y5 T (aN ts (Jb 0 B)) rs=some (l,none)) (b:r=resV l):Fin T N nt 0 rs r B st:=by
 refine ⟨ts,?_,(l,none),hl,trivial,b⟩;have h:=uY.toB hT (nt:=nt) F ids hF a ht hm;have e:aN ts (Jb 0 B)=Vs (λk=>lW k ts) (yL B):=by rw [ZU,FQ]
 rw [e];exact h
end
open Go.Proofs
section
variable {P:Program} {T:Nat->TI} {N:Nat}
theorem bf (hT:jf P T N) {nt k j t:Nat} {st:St} {y:AV} {B:zI} (h:st.t k=some (.always,.ptr (.s j 0) 1 0 [])) (hm:st.m (.s j 0)=some (.cells B)) (b:B.ty=t) (hn:B.n=1) (a:B.fz=0) (i:Conv st.m (λid=>dX id []) T (B.get 0) y) (c:fE y=true) (e:fH [.s j 0] y=true) (d:pI y=true):Fin T N nt 0 [.cell k t] y [] st:=by
 obtain ⟨ty,n,get,fz⟩:=B;simp only at b hn a i;subst b hn a;refine Fin.ent (uY.mk (P:=P) hT [] (ts:=[(k,.ptr (.s j 0) 1 0 [])]) (ms:=[(.s j 0,.cells ⟨ty,1,λ_=>y,0⟩)]) trivial ⟨⟨by simp [fH,gX,aU],_,h,ah rfl⟩,tt⟩ ⟨⟨λ_ _=>e,.inl ⟨_,hm,_,_,rfl,aa3 _,abM _,abM _,λq g=>?_⟩⟩,tt⟩ rfl) ?_
 ·(obtain rfl:q=0:=by simp at g;exact g);exact i
 (have f:(aN [(k,AV.ptr (.s j 0) 1 0 [])] [(.s j 0,Ob.cells ⟨ty,1,λ_=>y,0⟩)]).m (.s j 0)=some (.cells ⟨ty,1,λ_=>y,0⟩):=by simp [aN,ng,aU]);(have o:(aN [(k,AV.ptr (.s j 0) 1 0 [])] [(.s j 0,Ob.cells ⟨ty,1,λ_=>y,0⟩)]).t k=some (.always,.ptr (.s j 0) 1 0 []):=by simp [aN,lW]);refine aJ hT [(.s j 0,1)] (ts:=[(k,.rp ty y)]) (l:=[y]) ⟨⟨_,f,aa3 _⟩,tt⟩ ⟨⟨rfl,_,o,?_⟩,tt⟩ trivial rfl ?_ rfl;{exact bK f rfl (by simp [dX,aU]) rfl (by show y.at []=y;cases y <;> rfl) c};simp [y5,aN,lW,Vd,nP,d,fP]
theorem qm {α β:Type} {f g:α->List β}:∀ {l:List α},(∀ a∈l,f a=g a)->l.flatMap f=l.flatMap g
 | [],_=>rfl
 | a::r,h=>by rw [aey,aey,h a (adX ..),qm (λb hb=>h b (adz _ hb))]
def J6 (T:Nat->TI) (F:AV->Option (List Value)):List Nat->Nat->(Nat->AV)->Option (List Value)
 | [],_,_=>some []
 | u::r,i,g=>bif fit T u (g i)then (F (g i)).bind λl=>bif Nat.beq l.length (T u).size then (J6 T F r (i+1) g).bind λm=>some (l++m)else none else none
def EK (T:Nat->TI) (N:Nat):Nat->AV->Option (List Value)
 | 0,_=>none
 | _+1,.v x=>bif qj x then some [x]else none
 | f+1,.agg t n get=>match (T t).kind with
  | .struct fs=>bif Nat.beq fs.length n&&Nat.blt t N then J6 T (EK T N f) fs 0 get else none
  | .array k e=>bif Nat.beq k n&&Nat.blt t N then J6 T (EK T N f) (List.replicate n e) 0 get else none
  | _=>none
 | _+1,_=>none
theorem Bv {F:AV->Option (List Value)}:∀ {fs:List Nat} {i:Nat} {g:Nat->AV} {l:List Value},J6 T F fs i g=some l ->
 (∀ j u,fs[j]? = some u->fit T u (g (i+j))=true /\ ∃ d,F (g (i+j))=some d/\d.length=(T u).size)/\l=(List.range fs.length).flatMap (λj=>(F (g (i+j))).getD [])
 | [],i,g,l,h=>by cases h;exact ⟨λj u h=>by simp at h,rfl⟩
 | u::r,i,g,l,h=>by rw [J6]at h;cases hf:fit T u (g i)with| false=>(rw [hf]at h;cases h)| true=>rw [hf,adv]at h;(cases hF:F (g i)with| none=>(rw [hF]at h;cases h)| some c=>rw [hF]at h;simp only [adT]at h;(cases hl:Nat.beq c.length (T u).size with| false=>(rw [hl]at h;cases h)| true=>rw [hl,adv]at h;(cases b:J6 T F r (i+1) g with| none=>(rw [b]at h;cases h)| some m=>rw [b]at h;simp only [adT,abf]at h;subst h;obtain ⟨e,f⟩:=Bv b;refine ⟨λj v a=>?_,?_⟩;{cases j with| zero=>simp at a;subst a;exact ⟨hf,c,hF,abJ hl⟩| succ j=>have:=e j v (by simpa using a);rwa [show i+1+j=i+(j+1) by omega]at this};rw [adS,List.range_succ_eq_map,aey,List.flatMap_map,f];simp only [ad2,hF,adx];congr 1;refine qm ?_;intro j _;rw [show i+1+j=i+(j+1) by omega])))
theorem OT:∀ {f:Nat} {x:AV} {l:List Value},EK T N f x=some l->(∀ I ρ,Rep T N I ρ x l) /\ ∀ I ρ cs,Rep T N I ρ x cs->cs=l:=by
 intro f;induction f with| zero=>(intro x l h;cases h)| succ f s=>intro x l h;(match x with| .v y=>rw [EK]at h;(cases hp:qj y with| false=>(rw [hp]at h;cases h)| true=>rw [hp,adv,abf]at h;subst h;exact ⟨λI ρ => .v hp,λI ρ cs p=>by cases p;rfl⟩)| .agg t n get=>rw [EK]at h;split at h;{rename_i fs hk;cases hc:(Nat.beq fs.length n&&Nat.blt t N)with| false=>(rw [hc]at h;cases h)| true=>rw [hc,adv]at h;simp only [abe]at hc;have hn:=abJ hc.1;(have ht:t<N:=by simpa [adV]using hc.2);obtain ⟨b,m⟩:=Bv h;simp only [acY]at b m;subst hn m;refine ⟨λI ρ => .struct fs _ hk rfl ht (λi u hi=>?_) (λi u hi=>(b i u hi).1) (λi u hi=>?_),λI ρ cs p=>?_⟩;{obtain ⟨_,q,e,_⟩:=b i u hi;simp only [e,adx];exact (s e).1 I ρ};{obtain ⟨_,q,e,w⟩:=b i u hi;simp only [e,adx];exact w};(cases p with| struct z segs a a0 g j c d=>rw [hk]at a;cases a;refine qm ?_;intro i hi;(have o:i<fs.length:=by simpa using hi);obtain ⟨_,q,e,_⟩:=b i _ (aaR o);simp only [e,adx];exact (s e).2 I ρ _ (j i _ (aaR o))| array e segs a g j c d=>(rw [hk]at a;cases a))};{rename_i k e hk;cases hc:(Nat.beq k n&&Nat.blt t N)with| false=>(rw [hc]at h;cases h)| true=>rw [hc,adv]at h;simp only [abe]at hc;have hn:=abJ hc.1;(have ht:t<N:=by simpa [adV]using hc.2);obtain ⟨b,m⟩:=Bv h;simp only [acY,List.length_replicate]at b m;have r:∀ i,i<n->fit T e (get i)=true /\ ∃ lj,EK T N f (get i)=some lj/\lj.length=(T e).size:=λi hi=>b i e (by simp [hi]);subst hn m;refine ⟨λI ρ => .array e _ hk ht (λi hi=>?_) (λi hi=>(r i hi).1) (λi hi=>?_),λI ρ cs p=>?_⟩;{obtain ⟨_,q,e,_⟩:=r i hi;simp only [e,adx];exact (s e).1 I ρ};{obtain ⟨_,q,e,w⟩:=r i hi;simp only [e,adx];exact w};(cases p with| struct z segs a a0 g j c d=>(rw [hk]at a;cases a)| array e segs a g j c d=>rw [hk]at a;cases a;refine qm ?_;intro i hi;obtain ⟨_,q,e,_⟩:=r i (by simpa using hi);simp only [e,adx];exact (s e).2 I ρ _ (j i (by simpa using hi)))};(cases h)| .tup _ | .row .. | .own .. | .arr .. | .ptr .. | .rp .. | .clo .. | .mp _=>simp [EK]at h)
end
section
variable {α:Type} {d:α}
end
section
variable {P:Program} {T:Nat->TI} {N:Nat}
theorem ES {w:World} {base:Nat} {a:Addr} {n:Nat} {cs:List Value} (h:w.cells? base a n=some cs) (hn:0<n):a.spot=none:=by
 obtain ⟨_,c⟩:=BD h;have b:=c 0 hn;have hl:0<cs.length:=by rw [(BD h).1];exact hn
 rw [aaR hl,show a.add 0=a from rfl]at b;unfold World.cell? at b;split at b
 ·split at b;{cases b};rename_i d;simpa using d
 cases b
theorem Dec.slice (hT:jf P T N) {t e:Nat} {α:Type} {enc:α->AV} {Q:α->Prop} (d0:α) (hu:P.underlying t=some (.slice e)) (hk:(T t).kind.isAgg=false) (he:e<N) (hd:Dec P T N e enc Q):Dec P T N t (abk e enc d0 false) (λl => ∀ a∈l,Q a):=by
 intro H eh w fuel cs d ps p;have g:∀ l,fit T t (abk e enc d0 false l)=true:=λl=>by show (!(T t).kind.isAgg)=true;rw [hk];rfl
 cases fuel with| zero=>simp [DataW.trod]at p| succ fuel =>
 unfold DataW.trod at p;rw [hu]at p;have hsz:=hT.cellsOf he;have n:=hT.size_pos he;obtain ⟨v,rfl⟩:∃ v,cs=[v]:=by rcases cs with _ | ⟨v,_ | ⟨u,r⟩⟩;{simp at p};{exact ⟨v,rfl⟩};simp at p
 cases v <;> try (simp at p;done)
 rename_i a len cap;cases a with
 | none=>(have h0:len=0/\cap=0:=by cases len <;> cases cap <;> simp_all);obtain ⟨rfl,rfl⟩:=h0;exact ⟨[],λa ha=>by simp at ha,.row0 he,g _⟩
 | some a =>
  simp only [aeH,ad5,aaC,ade]at p
  obtain ⟨⟨_,h1,a6⟩,elems,a5,rest,z,_⟩:=p
  have a4:cap<2 ^ 63:=by unfold maxLen at a6;omega
  rcases aeD cap with s | s
  ·subst s;(obtain rfl:len=0:=by omega);exact ⟨[],λa ha=>by simp at ha,.row0 he,g _⟩
  ·have k:a.spot=none:=by rcases aeD len with x | x;{subst x;obtain ⟨_,f⟩:=mapM_at z;obtain ⟨y,_,m⟩:=f 0 0 (by simp [s]);simp only [aaC]at m;obtain ⟨seg,h7,_⟩:=m;have h8:=ES h7 (by rw [hsz];exact n);simpa [Addr.add]using h8};obtain ⟨_,f⟩:=mapM_at a5;obtain ⟨y,_,m⟩:=f 0 0 (by simp [x]);simp only [aaC]at m;obtain ⟨seg,h7,_⟩:=m;have h8:=ES h7 (by rw [hsz];exact n);simpa [Addr.add]using h8
   obtain ⟨b,off,spot⟩:=a
   simp only at k
   subst k
   obtain ⟨hlen,f⟩:=mapM_at a5
   have hex:∀ i,∃ (a:α) (seg:List Value),i<len->Q a/\Rep T N (rQ w) iG (enc a) seg/\fit T e (enc a)=true/\seg.length=(T e).size /\ ∀ o,o<(T e).size->rQ w b (off+(i*(T e).size+o))=seg[o]? := by intro i;by_cases hi:i<len;{obtain ⟨y,h5,m⟩:=f i i (by simp [hi]);simp only [aaC]at m;obtain ⟨seg,h7,h8⟩:=m;obtain ⟨a,q1,q2,q3⟩:=hd H eh w fuel seg y.1 y.2 h8;obtain ⟨c1,c2⟩:=BD h7;rw [hsz]at c1 c2;refine ⟨a,seg,λ_=>⟨q1,q2,q3,c1,λo ho=>?_⟩⟩;rw [<- c2 o ho];simp only [rQ,jD,adN]};exact ⟨d0,[],λh=>absurd h hi⟩
   have c:=λi=>adt (adt (hex i))
   generalize hA:(λi=>Classical.choose (hex i))=A at c
   have q:∀ i,Classical.choose (hex i)=A i:=λi=>congrFun hA i
   refine ⟨(List.range len).map A,λa ha=>?_,?_,g _⟩
   ·simp only [List.mem_map,adE]at ha;obtain ⟨i,hi,rfl⟩:=ha;have:=(c i hi).1;rwa [q]at this
   ·have hg:∀ i,i<len->((List.range len).map A).getD i d0=A i:=λi hi=>by simp [hi]
    have:=Rep.row (T:=T) (N:=N) (I:=rQ w) (ρ:=iG) (e:=e) (full:=false) (len:=((List.range len).map A).length) (get:=λi=>enc (((List.range len).map A).getD i d0)) b off cap (λi=>Classical.choose (adt (hex i))) he (by simpa using h1) a4 (λh=>by cases h)
     (
      λi hi=>by
      have j:i<len:=by simpa using hi
      rw [hg i j,<- q]
      exact (c i j).2.1)
     (
      λi hi=>by
      have j:i<len:=by simpa using hi
      rw [hg i j,<- q]
      exact (c i j).2.2.1)
     (λi hi=>(c i (by simpa using hi)).2.2.2.1)
     (λi hi o ho=>(c i (by simpa using hi)).2.2.2.2 o ho)
    simpa [abk]using this
theorem Hl (hT:jf P T N) {t:Nat} {fs:List Nat} (hk:(T t).kind = .struct fs) {w:World} {r:Reach} {base:Nat} {v:Value} (h:Value.okWide P w r base t v):∃ cs,v = .agg cs:=by
 have c:=hT.lt (t:=t) (by rw [hk];simp);obtain ⟨dd,b,a,e⟩:=hT.und t c;rw [hk]at a;cases dd <;> simp only [kindOf,reduceCtorEq,TK.struct.injEq]at a
 unfold Value.okWide at h;rw [b]at h;obtain ⟨cs,d,_⟩:=h;exact ⟨cs,d⟩
end
section
variable {R:Option Nat->Bool->Prop} {P:Program} {T:Nat->TI} {N nt nb:Nat} {post:Post} {st:St}
theorem sq {x y:Code} (h:WP R P T N nt nb x (RI (WP R P T N nt nb y post) post) st):WP R P T N nt nb (.seq x y) post st:=WP.seq h
theorem bk {id:Nat} {c:Code} (h:WP R P T N nt nb c (aaA id post) st):WP R P T N nt nb (.block id c) post st:=WP.block h
theorem sk (h:post .normal st):WP R P T N nt nb .skip post st:=WP.skip h
theorem xt {id:Nat} (h:post (.exit id) st):WP R P T N nt nb (.exit id) post st:=WP.exit h
theorem cd {c:Operand} {x y:Code} {b:Bool} (hc:ev st c=some (.always,.v (.bool b))) (ht:b=true->WP R P T N nt nb x post st) (hf:b=false->WP R P T N nt nb y post st):WP R P T N nt nb (.cond c x y) post st:=WP.cond hc ht hf
theorem cvt {m:Id->Option Ob} {F:Id->Nat} {x y:AV} (h:x=y:=by first | rfl | (rw [bZ (by omega) (by omega)];simp;done) | (simp;done)):Conv m F T x y:=ah h
theorem all_succ {Q:Nat->Prop} {i:Nat} (hn:∀ j,j<i->Q j) (h:Q i):∀ j,j<i+1->Q j:=λj b=>by
 rcases ado j i with a | a
 ·exact hn j a
 ·obtain rfl:j=i:=by omega
  exact h
theorem cq {Q:Prop} (h:Q:=by refine ⟨rfl,_,rfl,?_⟩;exact cvt):Q:=h
theorem cX {Q:Prop} (h:Q:=by
 repeat refine ⟨cq,?_⟩
 exact True.intro):Q:=h
theorem au {Q:Prop} (h:Q:=by
 simp only [ay,under,CG.pure];repeat' with_reducible refine And.intro ?_ ?_
 all_goals (try with_reducible intros)
 all_goals (first | exact trivial | assumption | omega | (simp;done) | grind)):Q:=h
theorem obs {st:St} {F:List (Id×Nat)} {keep:List Id} {id:Id} {B:zI} {ty n:Nat} {get:Nat->AV} {X:Prop} (hm:st.m id=some (.cells B)) (ht:B.ty=ty:=by rfl) (hn:B.n=n:=by rfl) (c:B.fz=0:=by rfl) (hF:dX id F=0:=by rfl) (a:∀ i,i<n->fH keep (get i)=true:=by exact λ_ _=>rfl)
 (hg:∀ q,q<n->Conv st.m (λid=>dX id F) T (B.get q) (get q):=by exact λq b=>by first | exact ah rfl | (obtain rfl:q=0:=(by simp at b;exact b);exact ah rfl)) :
 okO keep (.cells ⟨ty,n,get,0⟩)/\((∃ d,st.m id=some d/\ObC st.m (λid=>dX id F) T (dX id F) d (.cells ⟨ty,n,get,0⟩))\/X):=by
 obtain ⟨e,f,get',fz⟩:=B;simp only at ht hn c hg;subst ht hn c;exact ⟨a,.inl ⟨_,hm,get,0,rfl,aa3 _,by rw [hF];exact aa3 _,abM _,hg⟩⟩
end
section
variable {R:Option Nat->Bool->Prop} {P:Program} {T:Nat->TI} {N nt nb:Nat} {post:Post}
theorem VA {m:Id->Option Ob} {F:Id->Nat} {id:Id} {cap:Option Nat}:Conv m F T .nils (.own id 0 0 0 cap):=Or.inr ⟨rfl,.inl ⟨_,_,rfl⟩⟩
theorem WP.nilreg (hT:jf P T N) (hE:wZ P T N) {id:Nat} {ops:Array Oper} {o:Oper} {l:List Oper} {t p:Nat->Option (D×AV)} {m q:Id->Option Ob} {gs s:List CG} {c:Option Prop} {ty i z yt:Nat} {e len el:Nat} {f:Bool} {g:Nat->AV}
 (hl:ops.toList=l++[o]) (h:Zc T (AC P T N) nt ops.toList l t m gs none=some ⟨⟨p,q⟩,s,c⟩) (hc:ay c)
 (ho:o.op = .binOp .eql ty (.tmp i) (.const (.slice none 0 0)) yt) (hd:o.dst=some z) (hg:o.guard=none) (a4:Dl nt (some z)=true) (ht:p i=some (.always,.row e f len g)) (hk:(T ty).kind = .slice el)
 (hp:∀ b,post .normal ⟨Gt p z (some (.always,.v (.bool b))),q⟩):WP R P T N nt nb (.region id ops false) post ⟨t,m⟩:=λen h1 h2 I ρ a w hs rd hr n=>by
 subst h1;rw [LM]at h;have a2:∀ st,oK ops.toList st o=some .always:=λst=>by unfold oK;rw [hg]
 refine wpIn_region_list ?_;have hh:wpListIn (l9 rd) n P ops (λex d w' => ∃ st' I' ρ',post ex st'/\gJ T N en I' ρ' st' d w') (l++[o]) a w:=by refine (YG (l2:=[o]) hT hE rd n l ⟨⟨t,m⟩,gs,none⟩ ⟨⟨p,q⟩,s,c⟩ hs h hc (λI' ρ' d w' j=>?_)).2;have k:=vJ j (a2 ⟨p,q⟩);unfold wpListIn;rw [aaU (k.1 trivial)];refine ⟨λ_ _=>trivial,?_⟩;rw [Oper.semAt_eq _ _ _ (by simp [ho])];have u:=((j.tm i _ _ ht).1 trivial).rep1 (λ_=>by simp);have hu:=(hT.sli hk).2;(have key:∀ (v:Value) (sp:Option Addr) (ln y:Nat),v = .slice sp ln y->d.eval (.tmp i)=v -> ∃ b,(do eqGuard .eql ty (.tmp i) (.const (.slice none 0 0)) (d.eval (.tmp i)) (d.eval (.const (.slice none 0 0)));binOp .eql ty (d.eval (.tmp i)) (d.eval (.const (.slice none 0 0))):Sem Value).run P w' = .ok (.bool b) w':=by rintro v sp ln y rfl ev;refine ⟨sp.isNone&&true,?_⟩;have e2:d.eval (.const (.slice none 0 0)) = .slice none 0 0:=rfl;rw [ev,e2];have a3:=gU (P:=P) (a := .slice sp ln y) (b := .slice none 0 0) .eql ty (.tmp i) (.const (.slice none 0 0)) (by simp) (by simp) w';simp only [Sem.run_bind,a3,Result.andThen_ok,binOp];rw [gY hu w' sp none ln y 0 0 (.inr rfl)];rfl);(have a1:∃ b,(do eqGuard .eql ty (.tmp i) (.const (.slice none 0 0)) (d.eval (.tmp i)) (d.eval (.const (.slice none 0 0)));binOp .eql ty (d.eval (.tmp i)) (d.eval (.const (.slice none 0 0))):Sem Value).run P w' = .ok (.bool b) w':=by rcases Rep.row_inv u with ⟨⟨ad,ex⟩,_,_⟩ | ⟨b,off,cap,segs,_,_,_,_,_,_,_,_,ex⟩;{exact key _ _ _ _ ex rfl};exact key _ _ _ _ ex rfl);obtain ⟨b,hb⟩:=a1;(have x:(execOp d.eval o).run P w' = .ok (.value (.bool b)) w':=by unfold execOp;rw [ho];exact fD hb);rw [x];refine ⟨_,I',ρ',hp b,?_⟩;have:=pR (o:=o) (G := .always) (r:=⟨.v (.bool b),[],[],none⟩) (v := .bool b) j (by rw [hd];exact a4) (.inr ⟨λ_=>fZ rfl,λh=>absurd trivial h⟩) (Ev.refl _ _ _) j.wr;(have e3:(St.after ⟨p,q⟩ o .always ⟨.v (.bool b),[],[],none⟩)=⟨Gt p z (some (.always,.v (.bool b))),q⟩:=by simp only [St.after,St.put,hd,iP]);rw [e3]at this;exact this
 rw [<- hl]at hh;exact hh
theorem AC.ent {f:FuncId} {args:List AV} {B:List Ob} {r k:AV} {B' y:List Ob} (h:AC P T N f args B r B') (g:uY T N 1 B.length (aN [(0,r)] (Jb 0 B')) (aN [(0,k)] (Jb 0 y))):AC P T N f args B k y:=by
 refine ⟨h.1,λI ρ w vs hl q hw=>(h.2 I ρ w vs hl q hw).mono ?_⟩;rintro e w' ⟨v,I',ρ',he,h1,h2,h3⟩;have hm:∀ B:List Ob,(aN [(0,r)] (Jb 0 B)).m=yL B:=λB=>FQ B;have l:∀ B:List Ob,(aN [(0,k)] (Jb 0 B)).m=yL B:=λB=>FQ B;have n:gJ T N ⟨I,ρ,w,1,B.length,false⟩ I' ρ' (aN [(0,r)] (Jb 0 B')) { tmps := #[v],defers:=[] } w':=by refine ⟨by rw [hm];exact h3,λt d x ht=>?_,rfl,⟨Marks.nil,λ_=>rfl⟩,h1,λid p hp=>?_⟩;{simp only [aN,ade,adJ]at ht;obtain ⟨x0,i,rfl,rfl⟩:=ht;simp only [lW]at i;cases hb:Nat.beq t 0 with| false=>(rw [hb]at i;cases i)| true=>rw [hb]at i;cases i;obtain rfl:=abJ hb;exact ⟨λ_=>h2,λh=>absurd trivial h⟩};have:=hw.dom id p hp;cases id with| s a b=>exact absurd rfl this| b j=>refine ⟨j,?_,rfl⟩;(cases z:B[j]? with| none=>simp [yL,z]at this| some o=>exact (List.getElem?_eq_some_iff.1 z).1)
 obtain ⟨I2,u,c⟩:=g _ rfl rfl I' ρ' _ w' n;refine ⟨v,I2,u,he,c.ev,?_,?_⟩
 ·exact (c.tm 0 .always k rfl).1 trivial
 have:=c.wr;rwa [l]at this
end
section
variable {T:Nat->TI}
theorem sF {st:St} {id:Id} {B:zI} (h:st.m id=some (.cells B):=by rfl) (hk:1<=B.n:=by exact aa3 _):∃ B,st.m id=some (.cells B)/\1<=B.n:=⟨B,h,hk⟩
theorem rpv {m:Id->Option Ob} {F:Id->Nat} {id:Id} {n i:Nat} {p:List Nat} {t:Nat} {y:AV} {B:zI} (hm:m id=some (.cells B):=by rfl) (hn:B.n=n:=by rfl) (hF:i<F id:=by decide) (ht:aY T B.ty p=some t:=by rfl) (b:(B.get i).at p=y:=by rfl) (a:fE y=true:=by rfl):Conv m F T (.ptr id n i p) (.rp t y):=bK hm hn hF ht b a
theorem rq {Q:Prop} (h:Q:=by refine ⟨rfl,_,rfl,?_⟩;exact rpv):Q:=h
theorem q0 {Q:Nat->Prop} (h:Q 0):∀ q,q<1->Q q:=λq a=>by obtain rfl:q=0:=Nat.lt_one_iff.1 a;exact h
end
end Go.Ab
