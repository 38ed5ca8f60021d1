/- Part 7 of a proof of a statement about the given program: an abstract machine over the model, proved sound, and contracts of the functions that the statement reaches; the last part proves the statement, for every input, with no condition. -/
import Derived.Test.YtcfelhfcjdofoaaGreatDoorX5
import Derived.Laws.Tables
set_option autoImplicit false
set_option linter.unusedSimpArgs false
set_option linter.unusedVariables false
namespace Go.Ab
section
variable {P:Program} {T:Nat→TI} {N:Nat}
theorem foldl_set (news:List Value):∀ (off k:Nat) (cs:Array Value),off+k+news.length≤cs.size →
 ∃ cs':Array Value,((news.zipIdx k).foldl (fun cs (x:Value×Nat)=>cs.setIfInBounds (off+x.2) x.1) cs)=cs'∧cs'.size=cs.size ∧
  ∀ q:Nat,cs'[q]? = if off+k≤q∧q<off+k+news.length then news[q - (off+k)]? else cs[q]? := by
 induction news with
 | nil=>intro off k cs h;exact ⟨cs,rfl,rfl,fun q=>by rw [if_neg (by simp)]⟩
 | cons x news ih =>
  intro off k cs h;simp only [List.length_cons]at h;obtain ⟨cs',h1,h2,h3⟩:=ih off (k+1) (cs.setIfInBounds (off+k) x) (by simp;omega);refine ⟨cs',by simpa [List.zipIdx_cons]using h1,by simpa using h2,fun q=>?_⟩;rw [h3];simp only [List.length_cons];by_cases hq:q=off+k
  ·subst hq;rw [if_neg (by omega),if_pos (by omega),Nat.sub_self];simp [show off+k<cs.size by omega]
  ·by_cases hr:off+k≤q∧q<off+k+(news.length+1)
   ·rw [if_pos (by omega),if_pos hr,show q - (off+k)=(q - (off+(k+1)))+1 by omega,List.getElem?_cons_succ]
   ·rw [if_neg (by omega),if_neg hr,Array.getElem?_setIfInBounds_ne (by omega)]
theorem EP {I:Imm} {ρ:Pl} {t:Nat} (place:Nat→Option (Nat×Nat))
 (hp:∀ k u,aJ T t [k]=some u→pathIn T t [k]→place k=some (aF T t [k],(T u).size)) (hN:∀ k u,aJ T t [k]=some u→u<N) :
 ∀ (ps:List (Nat×AV)) (vs:List Value) (x:AV) (cs:List Value),rH T t ps=true→vs.length=ps.length →
  (∀ (i:Nat) (p:Nat×AV) (v:Value),ps[i]? = some p→vs[i]? = some v → ∃ sg,Rep T N I ρ p.2 sg∧v.cells=sg.toArray ∧ ∀ u,u<N→fit T u p.2=true→sg.length=(T u).size) →
  Rep T N I ρ x cs→fit T t x=true→cs.length=(T t).size →
  ∃ cs',Instr.fill place cs.toArray ((ps.map (·.1)).zip vs)=some cs'.toArray∧Rep T N I ρ (qF ps x) cs'∧fit T t (qF ps x)=true∧cs'.length=(T t).size
 | [],vs,x,cs,_,_,_,hr,hf,hl=>⟨cs,by simp [Instr.fill],by simpa [qF]using hr,by simpa [qF]using hf,hl⟩
 | p::ps,[],x,cs,_,hlen,_,_,_,_=>by simp at hlen
 | p::ps,v::vs,x,cs,hok,hlen,hvs,hr,hf,hl=>by
  simp only [rH,List.all_cons,Bool.and_eq_true]at hok;obtain ⟨sg,s1,s2,s3⟩:=hvs 0 p v rfl rfl;have hpt:∃ u,aJ T t [p.1]=some u∧pathIn T t [p.1]∧fit T u p.2=true:=by
   have h1:=hok.1;split at h1
   ·rename_i fs hk;split at h1
    ·rename_i u hu;exact ⟨u,by simp [aJ,hk,hu],by simp [pathIn,hk,hu],h1⟩
    ·cases h1
   ·rename_i k e hk;simp only [Bool.and_eq_true]at h1;have:p.1<k:=by simpa [Nat.blt_eq]using h1.1
    exact ⟨e,by simp [aJ,hk],by simp [pathIn,hk,this],h1.2⟩
   ·cases h1
  obtain ⟨u,hu1,hu2,hu3⟩:=hpt;have hsl:=s3 u (hN _ _ hu1) hu3
  obtain ⟨cs1,c1,c2,c3,c4⟩:=Rep.put s1 hu3 hsl [p.1] hr hf hl hu1 hu2;have hle:=iD hr hf hl hu1 hu2
  obtain ⟨cs',g1,g2,g3,g4⟩:=EP place hp hN ps vs (x.put [p.1] p.2) cs1 hok.2 (by simpa using hlen) (fun i q w h1 h2=>hvs (i+1) q w (by simpa using h1) (by simpa using h2)) c1 c2 c3;refine ⟨cs',?_,by simpa [qF]using g2,by simpa [qF]using g3,g4⟩;simp only [List.map_cons,List.zip_cons_cons,Instr.fill,hp p.1 u hu1 hu2,s2];have hsz:(sg.toArray:Array Value).size=(T u).size:=by simpa using hsl
  simp only [hsz,ne_eq,not_true_eq_false,decide_false,bne_self_eq_false,Bool.false_or,List.size_toArray];rw [if_neg (by simp;omega)];obtain ⟨ds,d1,d2,d3⟩:=foldl_set sg (aF T t [p.1]) 0 cs.toArray (by simp;omega);have e:ds=cs1.toArray:=by
   apply Array.ext';apply List.ext_getElem?;intro q;have:=d3 q
   simp only [Nat.add_zero,List.getElem?_toArray]at this;have h4:=c4 q
   rw [Array.getElem?_toList,this,h4,hsl]
  rw [e]at d1;have d1':sg.toArray.zipIdx.foldl (fun cs (x:Value×Nat)=>cs.setIfInBounds (aF T t [p.1]+x.2) x.1) cs.toArray=cs1.toArray:=by
   rw [← d1,← Array.foldl_toList,Array.toList_zipIdx]
  simp only [d1',g1]
theorem uI (hT:TOK P T N):∀ (fs:List Field),(∀ f∈fs,f.type<N)→fs.mapM (fun f=>(P.info? f.type).map fun i=>(f.offset,i.size))=some (fs.map fun f=>(f.offset,(T f.type).size))
 | [],_=>rfl
 | f::fs,h=>by
  obtain ⟨i,h1,h2,_⟩:=hT.info f.type (h f (by simp));simp [List.mapM_cons,h1,h2,uI hT fs (fun g hg=>h g (by simp [hg]))]
theorem JG (hT:TOK P T N) {I:Imm} {ρ:Pl} {t:Nat} (hz:oL (T t).zero=true) (hf:fit T t (T t).zero=true) (hk:(T t).kind.isAgg=true) {ps:List (Nat×AV)} {vs:List Value} (hok:rH T t ps=true) (hlen:vs.length=ps.length)
 (hvs:∀ (i:Nat) (p:Nat×AV) (v:Value),ps[i]? = some p→vs[i]? = some v→dI T N I ρ p.2 v) :
 ∃ cells,P.built t ((ps.map (·.1)).zip vs)=some cells∧gI T N I ρ (qF ps (T t).zero) (.agg cells):=by
 have ht:t<N:=hT.lt (by intro e;rw [e]at hk;cases hk);obtain ⟨i,z,hi,hiz,hzf,hzr⟩:=hT.zero t ht hz;have hzr:=hzr I ρ
 obtain ⟨n,g,hg⟩:=nY hzf hk;have hzl:z.cells.toList.length=(T t).size:=by
  rw [hg]at hzr;exact Rep.agg_len hT hzr
 have hvs':∀ (i:Nat) (p:Nat×AV) (v:Value),ps[i]? = some p→vs[i]? = some v → ∃ sg,Rep T N I ρ p.2 sg∧v.cells=sg.toArray ∧ ∀ u,u<N→fit T u p.2=true→sg.length=(T u).size:=by
  intro i p v h1 h2;have h3:=hvs i p v h1 h2
  refine ⟨v.cells.toList,h3.cells,by simp,fun u hul hu=>?_⟩;cases hku:(T u).kind.isAgg with
  | true =>
   obtain ⟨m,g',e⟩:=nY hu hku;have h4:=h3.cells
   rw [e]at h4;exact Rep.agg_len hT h4
  | false =>
   obtain ⟨y,e,_⟩:=h3.cells.one (rD hu hku);rw [e,hT.one u hul hku];rfl
 obtain ⟨d,hd,hkd,hfl⟩:=hT.und t ht;have finish:∀ place:Nat→Option (Nat×Nat),(∀ k u,aJ T t [k]=some u→pathIn T t [k]→place k=some (aF T t [k],(T u).size)) →
  ∃ cells,Instr.fill place z.cells ((ps.map (·.1)).zip vs)=some cells∧gI T N I ρ (qF ps (T t).zero) (.agg cells):=by
  intro place hp;obtain ⟨cs',g1,g2,g3,g4⟩:=EP place hp (fun k u h=>hT.pathLt [k] ht h) ps vs (T t).zero z.cells.toList hok hlen hvs' hzr hzf hzl;refine ⟨cs'.toArray,by simpa using g1,?_⟩;obtain ⟨m,g',e⟩:=nY g3 hk;rw [e]at g2 ⊢;exact .one ⟨cs',g2,rfl⟩
 cases hkt:(T t).kind <;> rw [hkt]at hk <;> try (cases hk;done)
 ·
   rename_i fs;rw [hkt]at hkd;cases d <;> simp only [kindOf,reduceCtorEq,TK.struct.injEq]at hkd
   rename_i flds;have hall:∀ f∈flds.toList,f.type<N:=fun f hf=>(hT.struct t fs hkt).1 _ (by rw [← hkd];exact List.mem_map.2 ⟨f,hf,rfl⟩)
   obtain ⟨cells,c1,c2⟩:=finish (fun k=>((flds.toList.map fun f=>(f.offset,(T f.type).size)).toArray)[k]?) (by
    intro k u h1 h2;simp only [aJ,hkt]at h1;cases hfk:fs[k]? with
    | none=>rw [hfk]at h1;cases h1
    | some v =>
     rw [hfk]at h1;simp only [Option.bind_some,Option.some.injEq]at h1;subst h1;obtain ⟨flds',fl,g1,g2,g3,g4,g5,g6⟩:=hT.field hkt hfk;rw [hd]at g1;cases g1;have:flds.toList[k]? = some fl:=by simpa using g3
     simp only [List.getElem?_toArray,List.getElem?_map,this,Option.map_some,g4,g5];simp [aF,hkt,hfk])
   refine ⟨cells,?_,c2⟩;simp only [Program.built,hi,hd,hiz,uI hT _ hall];exact c1
 ·
   rename_i n' e;rw [hkt]at hkd;cases d <;> simp only [kindOf,reduceCtorEq,TK.array.injEq]at hkd
   obtain ⟨rfl,rfl⟩:=hkd;rename_i n' e';obtain ⟨ie,he1,he2,_⟩:=hT.info e' (hT.array t n' e' hkt).1;obtain ⟨cells,c1,c2⟩:=finish (fun i=>some (i*ie.size,ie.size)) (by
    intro k u h1 h2;simp only [aJ,hkt]at h1;cases h1;simp [aF,hkt,he2])
   refine ⟨cells,?_,c2⟩;simp only [Program.built,hi,hd,hiz,he1];exact c1
end
end Go.Ab
