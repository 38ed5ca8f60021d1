/- Part 7 of a proof of a statement about the given program: an abstract machine over the model, proved sound, and contracts of the functions that the statement reaches; the last part proves the statement, for every input, with no condition. -/
import Derived.Test.YtcfelhfcjdofoaaGreatDoorX5
import Derived.Laws.Tables
set_option autoImplicit false
set_option linter.unusedSimpArgs false
set_option linter.unusedVariables false
namespace Go.Ab
section
variable {P:Program} {T:Nat->TI} {N:Nat}
theorem foldl_set (news:List Value):∀ (off k:Nat) (cs:Array Value),off+k+news.length<=cs.size ->
 ∃ cs':Array Value,((news.zipIdx k).foldl (λcs (x:Value×Nat)=>cs.setIfInBounds (off+x.2) x.1) cs)=cs'/\cs'.size=cs.size /\
  ∀ q:Nat,cs'[q]? = if off+k<=q/\q<off+k+news.length then news[q - (off+k)]? else cs[q]? := by
 induction news with
 | nil=>intro off k cs h;exact ⟨cs,rfl,rfl,λq=>by rw [Y0 (by simp)]⟩
 | cons x news ih =>
  intro off k cs h;simp only [adS]at h;obtain ⟨cs',b,c,d⟩:=ih off (k+1) (cs.setIfInBounds (off+k) x) (by simp;omega);refine ⟨cs',by simpa [List.zipIdx_cons]using b,by simpa using c,λq=>?_⟩;rw [d];simp only [adS];by_cases e:q=off+k
  ·subst e;rw [Y0 (by omega),aaU (by omega),Nat.sub_self];simp [show off+k<cs.size by omega]
  ·by_cases a:off+k<=q/\q<off+k+(news.length+1)
   ·rw [aaU (by omega),aaU a,show q - (off+k)=(q - (off+(k+1)))+1 by omega,aeJ]
   ·rw [Y0 (by omega),Y0 a,aeB (by omega)]
theorem OU {I:fK} {ρ:Pl} {t:Nat} (place:Nat->Option (Nat×Nat))
 (hp:∀ k u,aY T t [k]=some u->pathIn T t [k]->place k=some (aG T t [k],(T u).size)) (n:∀ k u,aY T t [k]=some u->u<N) :
 ∀ (c:List (Nat×AV)) (vs:List Value) (x:AV) (cs:List Value),zW T t c=true->vs.length=c.length ->
  (∀ (i:Nat) (p:Nat×AV) (v:Value),c[i]? = some p->vs[i]? = some v -> ∃ sg,Rep T N I ρ p.2 sg/\v.cells=sg.toArray /\ ∀ u,u<N->fit T u p.2=true->sg.length=(T u).size) ->
  Rep T N I ρ x cs->fit T t x=true->cs.length=(T t).size ->
  ∃ cs',Instr.fill place cs.toArray ((c.map (·.1)).zip vs)=some cs'.toArray/\Rep T N I ρ (yh c x) cs'/\fit T t (yh c x)=true/\cs'.length=(T t).size
 | [],vs,x,cs,_,_,_,hr,hf,hl=>⟨cs,by simp [Instr.fill],by simpa [yh]using hr,by simpa [yh]using hf,hl⟩
 | p::c,[],x,cs,_,hlen,_,_,_,_=>by simp at hlen
 | p::c,v::vs,x,cs,hok,hlen,hvs,hr,hf,hl=>by simp only [zW,List.all_cons,abe]at hok;obtain ⟨sg,s1,s2,s3⟩:=hvs 0 p v rfl rfl;(have l:∃ u,aY T t [p.1]=some u/\pathIn T t [p.1]/\fit T u p.2=true:=by have a:=hok.1;split at a;{rename_i fs hk;split at a;{rename_i u o;exact ⟨u,by simp [aY,hk,o],by simp [pathIn,hk,o],a⟩};cases a};{rename_i k e hk;simp only [abe]at a;(have:p.1<k:=by simpa [adV]using a.1);exact ⟨e,by simp [aY,hk],by simp [pathIn,hk,this],a.2⟩};cases a);obtain ⟨u,b,g,h⟩:=l;have f:=s3 u (n _ _ b) h;obtain ⟨d,c1,c2,c3,c4⟩:=Rep.put s1 h f [p.1] hr hf hl b g;have a3:=l7 hr hf hl b g;obtain ⟨cs',g1,y,z,g4⟩:=OU place hp n c vs (x.put [p.1] p.2) d hok.2 (by simpa using hlen) (λi q w a h2=>hvs (i+1) q w (by simpa using a) (by simpa using h2)) c1 c2 c3;refine ⟨cs',?_,by simpa [yh]using y,by simpa [yh]using z,g4⟩;simp only [aeh,List.zip_cons_cons,Instr.fill,hp p.1 u b g,s2];(have hsz:(sg.toArray:Array Value).size=(T u).size:=by simpa using f);simp only [hsz,ne_eq,adG,decide_false,bne_self_eq_false,Bool.false_or,aeb];rw [Y0 (by simp;omega)];obtain ⟨s,m,d2,r⟩:=foldl_set sg (aG T t [p.1]) 0 cs.toArray (by simp;omega);(have e:s=d.toArray:=by apply ad4;apply List.ext_getElem?;intro q;have:=r q;simp only [ad2,aeC]at this;have h4:=c4 q;rw [adn,this,h4,f]);rw [e]at m;(have j:sg.toArray.zipIdx.foldl (λcs (x:Value×Nat)=>cs.setIfInBounds (aG T t [p.1]+x.2) x.1) cs.toArray=d.toArray:=by rw [<- m,<- Array.foldl_toList,Array.toList_zipIdx]);simp only [j,g1]
theorem Ey (hT:jf P T N):∀ (fs:List Field),(∀ f∈fs,f.type<N)->fs.mapM (λf=>(P.info? f.type).map λi=>(f.offset,i.size))=some (fs.map λf=>(f.offset,(T f.type).size))
 | [],_=>rfl
 | f::fs,h=>by obtain ⟨i,a,b,_⟩:=hT.info f.type (h f (by simp));simp [List.mapM_cons,a,b,Ey hT fs (λg hg=>h g (by simp [hg]))]
theorem VF (hT:jf P T N) {I:fK} {ρ:Pl} {t:Nat} (hz:rV (T t).zero=true) (hf:fit T t (T t).zero=true) (hk:(T t).kind.isAgg=true) {o:List (Nat×AV)} {vs:List Value} (a7:zW T t o=true) (hlen:vs.length=o.length)
 (a9:∀ (i:Nat) (p:Nat×AV) (v:Value),o[i]? = some p->vs[i]? = some v->dU T N I ρ p.2 v) :
 ∃ cells,P.built t ((o.map (·.1)).zip vs)=some cells/\gB T N I ρ (yh o (T t).zero) (.agg cells):=by
 have ht:t<N:=hT.lt (by intro e;rw [e]at hk;cases hk);obtain ⟨i,z,hi,s,x,j⟩:=hT.zero t ht hz;have j:=j I ρ
 obtain ⟨n,g,hg⟩:=uV x hk;have b0:z.cells.toList.length=(T t).size:=by
  rw [hg]at j;exact Rep.agg_len hT j
 have w:∀ (i:Nat) (p:Nat×AV) (v:Value),o[i]? = some p->vs[i]? = some v -> ∃ sg,Rep T N I ρ p.2 sg/\v.cells=sg.toArray /\ ∀ u,u<N->fit T u p.2=true->sg.length=(T u).size:=by
  intro i p v c h2;have h3:=a9 i p v c h2
  refine ⟨v.cells.toList,h3.cells,by simp,λu a8 hu=>?_⟩;cases q:(T u).kind.isAgg with
  | true =>
   obtain ⟨m,g',e⟩:=uV hu q;have h4:=h3.cells
   rw [e]at h4;exact Rep.agg_len hT h4
  | false =>
   obtain ⟨y,e,_⟩:=h3.cells.one (zU hu q);rw [e,hT.one u a8 q];rfl
 obtain ⟨d,hd,b,c0⟩:=hT.und t ht;have finish:∀ place:Nat->Option (Nat×Nat),(∀ k u,aY T t [k]=some u->pathIn T t [k]->place k=some (aG T t [k],(T u).size)) ->
  ∃ cells,Instr.fill place z.cells ((o.map (·.1)).zip vs)=some cells/\gB T N I ρ (yh o (T t).zero) (.agg cells):=by
  intro place hp;obtain ⟨cs',g1,g2,g3,g4⟩:=OU place hp (λk u h=>hT.pathLt [k] ht h) o vs (T t).zero z.cells.toList a7 hlen w j x b0;refine ⟨cs'.toArray,by simpa using g1,?_⟩;obtain ⟨m,g',e⟩:=uV g3 hk;rw [e]at g2 ⊢;exact .one ⟨cs',g2,rfl⟩
 cases a:(T t).kind <;> rw [a]at hk <;> try (cases hk;done)
 ·
   rename_i fs;rw [a]at b;cases d <;> simp only [kindOf,reduceCtorEq,TK.struct.injEq]at b
   rename_i flds;have r:∀ f∈flds.toList,f.type<N:=λf hf=>(hT.struct t fs a).1 _ (by rw [<- b];exact List.mem_map.2 ⟨f,hf,rfl⟩)
   obtain ⟨cells,c1,c2⟩:=finish (λk=>((flds.toList.map λf=>(f.offset,(T f.type).size)).toArray)[k]?) (by
    intro k u c h2;simp only [aY,a]at c;cases l:fs[k]? with
    | none=>rw [l]at c;cases c
    | some v =>
     rw [l]at c;simp only [adT,abf]at c;subst c;obtain ⟨a0,fl,g1,g2,g3,g4,g5,g6⟩:=hT.field a l;rw [hd]at g1;cases g1;have:flds.toList[k]? = some fl:=by simpa using g3
     simp only [aeC,ady,this,adU,g4,g5];simp [aG,a,l])
   refine ⟨cells,?_,c2⟩;simp only [Program.built,hi,hd,s,Ey hT _ r];exact c1
 ·
   rename_i n' e;rw [a]at b;cases d <;> simp only [kindOf,reduceCtorEq,TK.array.injEq]at b
   obtain ⟨rfl,rfl⟩:=b;rename_i n' e';obtain ⟨ie,a5,a6,_⟩:=hT.info e' (hT.array t n' e' a).1;obtain ⟨cells,c1,c2⟩:=finish (λi=>some (i*ie.size,ie.size)) (by
    intro k u c h2;simp only [aY,a]at c;cases c;simp [aG,a,a6])
   refine ⟨cells,?_,c2⟩;simp only [Program.built,hi,hd,s,a5];exact c1
end
end Go.Ab
