/- Part 24 of a proof of a statement about the given program: an abstract machine over the model, proved sound, and contracts of the functions that the statement reaches; the last part proves the statement, for every input, with no condition. -/
import Derived.Test.YtcfelhfcjdofoaaGreatDoorX22
import Derived.Test.YtcfelhfcjdofoaaGreatDoorX20
import Derived.Test.YtcfelhfcjdofoaaGreatDoorX13
import Derived.Test.YtcfelhfcjdofoaaGreatDoorX21
set_option autoImplicit false
set_option linter.unusedSimpArgs false
set_option linter.unusedVariables false
set_option maxRecDepth 20000
namespace Go.Ab
open Go.Proofs
theorem Yu {n:Int} (h:Jb n):oD n:=h
theorem ZY {p:ak} (h:LC p):uM p:=⟨λv a=>Yu (h.1 v a),λf hf x hx=>Yu ((h.2.2.2 f hf).2.2.1 x hx).2.2.2.2⟩
section
variable {P:Program} {T:Nat->TI} {N:Nat}
abbrev wOK {H:Type} (P:Program) (t:Nat) (d:DataW H):Prop:=(d.weights P t).all (· <= reachBytes)=true
def uS (P:Program) (T:Nat->TI) (N:Nat) (t:Nat) {α:Type} (enc:α->AV) (Q:α->Prop):Prop :=
 ∀ (H:Type) (b:TypeId×Value->H) (w:World) (fuel:Nat) (cs:List Value) (d:DataW H) (c:List MemPlace),DataW.trod b P w 0 (λ_=>true) true fuel t cs=some (d,c)->wOK P t d -> ∃ a,Q a/\Rep T N (oV w) gX (enc a) cs/\fit T t (enc a)=true
theorem Dec.toW {t:Nat} {α:Type} {enc:α->AV} {Q:α->Prop} (h:Dec P T N t enc Q):uS P T N t enc Q:=λH a w fuel cs d c b _=>h H a w fuel cs d c b
theorem uS.map {t:Nat} {α β:Type} {enc:α->AV} {enc':β->AV} {Q:α->Prop} {b:β->Prop} (h:uS P T N t enc Q) (f:α->β) (he:∀ a,enc' (f a)=enc a) (j:∀ a,Q a->b (f a)):uS P T N t enc' b:=λH c w fuel cs d l k hw=>by
 obtain ⟨a,e,g,i⟩:=h H c w fuel cs d l k hw;exact ⟨f a,j a e,by rw [he];exact g,by rw [he];exact i⟩
theorem weightsAll_mem {H:Type} {e:Nat}:∀ {l:List (DataW H)},(DataW.weightsAll P e l).all (· <= reachBytes)=true -> ∀ d∈l,wOK P e d
 | [],_,d,hd=>by cases hd
 | x::r,h,d,hd=>by simp only [DataW.weightsAll,List.all_append,abf]at h;cases hd with| head=>exact h.1| tail _ hd=>exact weightsAll_mem h.2 d hd
theorem tJ {H:Type}:∀ {ts:List Nat} {l:List (DataW H)},(DataW.weightsEach P ts l).all (· <= reachBytes)=true -> ∀ (i u:Nat) (d:DataW H),ts[i]? = some u->l[i]? = some d->wOK P u d
 | [],l,_,i,u,d,hu,_=>by simp at hu
 | t::ts,[],_,i,u,d,_,hd=>by simp at hd
 | t::ts,x::r,h,i,u,d,hu,hd=>by simp only [DataW.weightsEach,List.all_append,abf]at h;cases i with| zero=>simp at hu hd;subst hu hd;exact h.1| succ i=>exact tJ h.2 i u d (by simpa using hu) (by simpa using hd)
theorem uS.slice (hT:ji P T N) {t e:Nat} {α:Type} {enc:α->AV} {Q:α->Prop} (d0:α) (hu:P.underlying t=some (.slice e)) (hk:(T t).kind.isAgg=false) (he:e<N) (hd:uS P T N e enc Q):uS P T N t (UW e enc d0 false) (λl=>l.length*P.bytesOf e<=reachBytes /\ ∀ a∈l,Q a):=by
 intro H eh w fuel cs d ps s n;have g:∀ l,fit T t (UW e enc d0 false l)=true:=λl=>by show (!(T t).kind.isAgg)=true;rw [hk];rfl
 cases fuel with| zero=>simp [DataW.trod]at s| succ fuel =>
 unfold DataW.trod at s;rw [hu]at s;have hsz:=hT.cellsOf he;have q:=hT.size_pos he;obtain ⟨v,rfl⟩:∃ v,cs=[v]:=by rcases cs with _ | ⟨v,_ | ⟨u,r⟩⟩;{simp at s};{exact ⟨v,rfl⟩};simp at s
 cases v <;> try (simp at s;done)
 rename_i a len cap;cases a with
 | none=>(have h0:len=0/\cap=0:=by cases len <;> cases cap <;> simp_all);obtain ⟨rfl,rfl⟩:=h0;exact ⟨[],⟨by simp,λa ha=>by simp at ha⟩,.row0 he,g _⟩
 | some a =>
  simp only [aej,ad9,MW,ac9]at s
  obtain ⟨⟨_,h1,b0⟩,elems,a9,rest,a1,a8⟩:=s
  have a7:cap<2 ^ 63:=by unfold maxLen at b0;omega
  rcases aee cap with z | z
  ·subst z;(obtain rfl:len=0:=by omega);exact ⟨[],⟨by simp,λa ha=>by simp at ha⟩,.row0 he,g _⟩
  ·have k:a.spot=none:=by rcases aee len with a0 | a0;{subst a0;obtain ⟨_,f⟩:=mapM_at a1;obtain ⟨y,_,p⟩:=f 0 0 (by simp [z]);simp only [MW]at p;obtain ⟨seg,h7,_⟩:=p;have h8:=vF h7 (by rw [hsz];exact q);simpa [Addr.add]using h8};obtain ⟨_,f⟩:=mapM_at a9;obtain ⟨y,_,p⟩:=f 0 0 (by simp [a0]);simp only [MW]at p;obtain ⟨seg,h7,_⟩:=p;have h8:=vF h7 (by rw [hsz];exact q);simpa [Addr.add]using h8
   obtain ⟨b,off,spot⟩:=a
   simp only at k
   subst k
   obtain ⟨hlen,f⟩:=mapM_at a9
   simp only [adR]at a8
   obtain ⟨rfl,_⟩:=a8
   unfold wOK at n
   simp only [DataW.weights,hu,List.all_cons,List.all_append,abf,acf,ad5]at n
   have m:len*P.bytesOf e<=reachBytes:=by have h9:=n.1;rw [List.length_range]at hlen;rw [hlen,adN]at h9;omega
   have a6:=weightsAll_mem n.2.1
   have hex:∀ i,∃ (a:α) (seg:List Value),i<len->Q a/\Rep T N (oV w) gX (enc a) seg/\fit T e (enc a)=true/\seg.length=(T e).size /\ ∀ o,o<(T e).size->oV w b (off+(i*(T e).size+o))=seg[o]? := by intro i;by_cases hi:i<len;{obtain ⟨y,h5,p⟩:=f i i (by simp [hi]);simp only [MW]at p;obtain ⟨seg,h7,h8⟩:=p;obtain ⟨a,q1,q2,q3⟩:=hd H eh w fuel seg y.1 y.2 h8 (a6 _ (List.mem_map.2 ⟨y,ac7 h5,rfl⟩));obtain ⟨c1,c2⟩:=yB h7;rw [hsz]at c1 c2;refine ⟨a,seg,λ_=>⟨q1,q2,q3,c1,λo ho=>?_⟩⟩;rw [<- c2 o ho];simp only [oV,jr,adV]};exact ⟨d0,[],λh=>absurd h hi⟩
   have c:=λi=>ady (ady (hex i))
   generalize hA:(λi=>Classical.choose (hex i))=A at c
   have x:∀ i,Classical.choose (hex i)=A i:=λi=>congrFun hA i
   refine ⟨(List.range len).map A,⟨by simpa using m,λa ha=>?_⟩,?_,g _⟩
   ·simp only [List.mem_map,adO]at ha;obtain ⟨i,hi,rfl⟩:=ha;have:=(c i hi).1;rwa [x]at this
   ·have hg:∀ i,i<len->((List.range len).map A).getD i d0=A i:=λi hi=>by simp [hi]
    have:=Rep.row (T:=T) (N:=N) (I:=oV w) (ρ:=gX) (e:=e) (full:=false) (len:=((List.range len).map A).length) (get:=λi=>enc (((List.range len).map A).getD i d0)) b off cap (λi=>Classical.choose (ady (hex i))) he (by simpa using h1) a7 (λh=>by cases h)
     (
      λi hi=>by
      have j:i<len:=by simpa using hi
      rw [hg i j,<- x]
      exact (c i j).2.1)
     (
      λi hi=>by
      have j:i<len:=by simpa using hi
      rw [hg i j,<- x]
      exact (c i j).2.2.1)
     (λi hi=>(c i (by simpa using hi)).2.2.2.1)
     (λi hi o ho=>(c i (by simpa using hi)).2.2.2.2 o ho)
    simpa [UW]using this
def qA (P:Program) (T:Nat->TI) (N:Nat) (fs:List Nat) {β:Type} (a:β->List AV) (Q:β->Prop):Prop :=
 ∀ (H:Type) (c:TypeId×Value->H) (w:World) (fuel:Nat) (cs:Nat->List Value),(∀ (i u:Nat),fs[i]? = some u -> ∃ y:DataW H×List MemPlace,DataW.trod c P w 0 (λ_=>true) true fuel u (cs i)=some y/\wOK P u y.1) ->
  ∃ b,Q b/\(a b).length=fs.length /\ ∀ (i u:Nat),fs[i]? = some u->Rep T N (oV w) gX ((a b).getD i .bad) (cs i)/\fit T u ((a b).getD i .bad)=true
theorem qA.nil:qA P T N [] (λ_:Unit=>[]) (λ_=>True):=λH a w fuel cs h=>⟨(),trivial,rfl,λi u hi=>by simp at hi⟩
theorem qA.cons {t:Nat} {fs:List Nat} {α β:Type} {enc:α->AV} {c:β->List AV} {Q:α->Prop} {R:β->Prop} (hd:uS P T N t enc Q) (hl:qA P T N fs c R):qA P T N (t::fs) (λx:α×β=>enc x.1::c x.2) (λx=>Q x.1/\R x.2):=by
 intro H e w fuel cs h;obtain ⟨y,f,d⟩:=h 0 t rfl;obtain ⟨a,g,j,k⟩:=hd H e w fuel (cs 0) y.1 y.2 f d;obtain ⟨b,l,m,n⟩:=hl H e w fuel (λi=>cs (i+1)) (λi u hi=>h (i+1) u (by simpa using hi));refine ⟨(a,b),⟨g,l⟩,by simp [m],λi u hi=>?_⟩;cases i with| zero=>simp at hi;subst hi;exact ⟨j,k⟩| succ i=>simpa using n i u (by simpa using hi)
theorem uS.struct (hT:ji P T N) {t:Nat} {fs:List Nat} {β:Type} {e:β->List AV} {Q:β->Prop} (hk:(T t).kind = .struct fs) (hl:qA P T N fs e Q):uS P T N t (λb=>bC t (e b)) Q:=by
 intro H eh w fuel cs d ps hr p;have o:=hT.lt (t:=t) (by rw [hk];simp);obtain ⟨dd,r,g,a5⟩:=hT.und t o;rw [hk]at g;cases dd <;> simp only [kindOf,reduceCtorEq,TK.struct.injEq]at g
 rename_i flds;cases fuel with
 | zero=>simp [DataW.trod]at hr
 | succ fuel =>
  unfold DataW.trod at hr
  rw [r]at hr
  simp only [aej,ac9]at hr
  obtain ⟨hlen,xs,a7,s⟩:=hr
  simp only [adR]at s
  obtain ⟨rfl,_⟩:=s
  unfold wOK at p
  simp only [DataW.weights,r]at p
  have m:=tJ p
  obtain ⟨_,a4⟩:=mapM_at a7
  have hS:=hT.struct t fs hk
  have a1:=hT.cellsOf o
  have a6:∀ (i u:Nat),fs[i]? = some u -> ∃ f,flds[i]? = some f/\f.type=u/\f.offset=jG T fs i:=by intro i u a;have b4:=a;rw [<- g]at a;simp only [adH,ac9,adw]at a;obtain ⟨f,l,h2⟩:=a;refine ⟨f,l,h2,?_⟩;rw [<- g];exact (a5 flds rfl i f l).1
  have hex:∀ (i u:Nat),fs[i]? = some u -> ∃ y:DataW H×List MemPlace,DataW.trod eh P w 0 (λ_=>true) true fuel u ((cs.drop (jG T fs i)).take ((fs.getD i 0|>T).size))=some y/\wOK P u y.1:=by intro i u a;obtain ⟨f,l,h2,h3⟩:=a6 i u a;obtain ⟨y,hy,h4⟩:=a4 i f (by simpa using l);refine ⟨y,?_,m i u y.1 (by rw [g];exact a) (by rw [adH,hy];rfl)⟩;rw [h2,h3,hT.cellsOf (hS.1 u (ac7 a))]at h4;rw [show fs.getD i 0=u by simp [a]];exact h4
  obtain ⟨b,q1,q2,q3⟩:=hl H eh w fuel (λi=>(cs.drop (jG T fs i)).take ((fs.getD i 0|>T).size)) hex
  refine ⟨b,q1,?_,by simp [fit,bC,hk,TK.isAgg]⟩
  have q:cs.length=jG T fs fs.length:=by rw [hlen,a1,hS.2]
  have c:∀ k,k<fs.length->jG T fs (k+1)=jG T fs k+(T (fs.getD k 0)).size:=λk v=>by simp only [jG,iV];simp [v]
  have a2:∀ j k,k+j=fs.length->jG T fs k<=cs.length:=by intro j;induction j with| zero=>intro k x;rw [q,<- x];exact abd _| succ j ih=>intro k x;have l:=ih (k+1) (by omega);rw [c k (by omega)]at l;omega
  have z:∀ k,k<=fs.length->jG T fs k<=cs.length/\(List.range k).flatMap (λi=>(cs.drop (jG T fs i)).take ((fs.getD i 0|>T).size))=cs.take (jG T fs k):=by intro k;induction k with| zero=>intro _;exact ⟨a2 fs.length 0 (by omega),by simp [jG,iV]⟩| succ k ih=>intro v;have l:=ih (by omega);refine ⟨a2 (fs.length - (k+1)) (k+1) (by omega),?_⟩;rw [aeh,ad2,l.2,c k (by omega),List.take_add];simp
  have h:=(z fs.length (abd _)).2
  rw [<- q,adX]at h
  have:=Rep.struct (T:=T) (N:=N) (I:=oV w) (ρ:=gX) (t:=t) (n:=fs.length) (get:=λi=>(e b).getD i .bad) fs (λi=>(cs.drop (jG T fs i)).take ((fs.getD i 0|>T).size)) hk rfl o (λi u a=>(q3 i u a).1) (λi u a=>(q3 i u a).2) (λi u a=>by
   have hi:=(List.getElem?_eq_some_iff.1 a).1
   have l:=(z (i+1) (by omega)).1
   rw [c i hi]at l
   rw [adn,aeL,show fs.getD i 0=u by simp [a]]at *
   omega)
  rw [h]at this
  simpa [bC,q2]using this
end
open Go.Proofs Go.ChangeShapes Go.WideShapes Go.ChangeAt Go.RowKit
theorem JI:reachBytes=rb:=rfl
theorem acZ:Tryz.prog.bytesOf 215=32:=by kernel_rfl
theorem adp:Tryz.prog.bytesOf 103=32:=by kernel_rfl
theorem adr:Tryz.prog.bytesOf 120=40:=by kernel_rfl
theorem ads:Tryz.prog.bytesOf 100=64:=by kernel_rfl
theorem bVar:Tryz.prog.bytesOf 116=16:=by kernel_rfl
theorem adq:Tryz.prog.bytesOf 3=8:=by kernel_rfl
theorem aaN:uS Tryz.prog T aH 103 gB (λx=>Xy x/\WR x) :=
 (uS.struct (t:=103) hT (show (T 103).kind = .struct [101,3]from rfl) (qA.cons (uS.slice hT DC abr rfl (abZ rfl) aaP.toW) (qA.cons qp.toW qA.nil))).map (λx=>⟨x.1,x.2.1⟩) (λ_=>rfl) (λx hx=>⟨⟨hx.1.2,hx.2.1⟩,by have:=hx.1.1;rw [acZ,JI]at this;exact this⟩)
theorem aaO:uS Tryz.prog T aH 100 dQ (λx=>XA x/\aa4 x) :=
 (uS.struct (t:=100) hT (show (T 100).kind = .struct [3,3,97,98]from rfl) (qA.cons qp.toW (qA.cons qp.toW (qA.cons (uS.slice hT mZ acz rfl (abZ rfl) ab8.toW) (qA.cons (uS.slice hT qE acw rfl (abZ rfl) aaN) qA.nil))))).map (λx=>⟨x.1,x.2.1,x.2.2.1,x.2.2.2.1⟩) (λ_=>rfl) (λx hx=>⟨⟨hx.1,hx.2.1,hx.2.2.1.2,λs a=>(hx.2.2.2.1.2 s a).1⟩,by have:=hx.2.2.1.1;rw [adr,JI]at this;exact this,by have:=hx.2.2.2.1.1;rw [adp,JI]at this;exact this,λs a=>(hx.2.2.2.1.2 s a).2⟩)
theorem Y8:uS Tryz.prog T aH 26 aj (λx=>LC x/\KP x) :=
 (uS.struct (t:=26) hT (show (T 26).kind = .struct [22,3,23,24]from rfl) (qA.cons (uS.slice hT Jd acv rfl (abZ rfl) decVar.toW) (qA.cons qp.toW (qA.cons ((uS.slice hT 0 acy rfl (abZ rfl) qp.toW).map (enc':=λl:List Int=>ints false l) (λl=>l) (λ_=>rfl) (λ_ h=>h)) (qA.cons (uS.slice hT jI acA rfl (abZ rfl) aaO) qA.nil))))).map (λx=>⟨x.1,x.2.1,x.2.2.1,x.2.2.2.1⟩) (λ_=>rfl) (λx hx=>⟨⟨hx.1.2,hx.2.1,hx.2.2.1.2,λf hf=>(hx.2.2.2.1.2 f hf).1⟩,by have:=hx.1.1;rw [bVar,JI]at this;exact this,by have:=hx.2.2.1.1;rw [adq,JI]at this;exact this,by have:=hx.2.2.2.1.1;rw [ads,JI]at this;exact this,λf hf=>(hx.2.2.2.1.2 f hf).2⟩)
theorem Wl {H:Type} {b:TypeId×Value->H} {W:World} {base:Nat} {v:Value} {d:DataW H} {p:List MemPlace} (h:DataW.Trod b Tryz.prog W 0 (λ_=>true) true 26 v d p) (hw:wOK Tryz.prog 26 d) (a:Value.okWide Tryz.prog W .any base 26 v):∃ x:ak,LC x/\KP x/\gG T aH (oV W) gX (aj x) v:=by
 obtain ⟨fuel,h⟩:=h;obtain ⟨x,⟨c,e⟩,hl,_⟩:=Y8 H b W fuel _ d p h hw;obtain ⟨cs,rfl⟩:=Hq hT (show (T 26).kind = .struct [22,3,23,24]from rfl) a;exact ⟨x,c,e,.one ⟨(Value.agg cs).cells.toList,hl,by simp [fH,aj,bC,Value.cells]⟩⟩
end Go.Ab
