/- Part 12 of a proof of a statement about the given program: an abstract machine over the model, proved sound, and contracts of the functions that the statement reaches; the last part proves the statement, for every input, with no condition. -/
import Derived.Test.YtcfelhfcjdofoaaGreatDoorX10
set_option autoImplicit false
set_option linter.unusedSimpArgs false
set_option linter.unusedVariables false
namespace Go.Ab
section
variable {P:Program} {T:Nat->TI} {N:Nat}
theorem nK {s:Sem Value} {w w':World} {u:Value} (h:s.run P w = .ok u w'):(do pure (Next.value (<- s)):Sem Next).run P w = .ok (.value u) w':=by simp [h]
theorem xB {s:Sem Unit} {w w':World} (h:s.run P w = .ok () w'):(do s;pure Next.skip:Sem Next).run P w = .ok .skip w':=by simp [h]
theorem IJ {o:Oper} (h:(!isDst o)=true):o.dst=none:=by
 unfold isDst at h;split at h
 ·cases h
 assumption
theorem kF {a b:Nat} (h:Nat.blt a b=true):a<b:=by simpa [adV]using h
theorem Oe (b:List (Nat×AV)) (z:AV) (j:Nat):wB b z j=z \/ ∃ p∈b,p.1=j/\wB b z j=p.2:=by
 unfold wB;suffices h:∀ (b:List (Nat×AV)) (a:AV),(b.foldl (λa p=>bif Nat.beq p.1 j then p.2 else a) a=a) \/ ∃ p∈b,p.1=j/\b.foldl (λa p=>bif Nat.beq p.1 j then p.2 else a) a=p.2 from h b z;intro b;induction b with| nil=>intro a;exact .inl rfl| cons p b f=>intro a;simp only [aes];rcases f (bif Nat.beq p.1 j then p.2 else a)with h | ⟨q,e,c,d⟩;{cases hb:Nat.beq p.1 j with| true=>rw [hb]at h;exact .inr ⟨p,by simp,abJ hb,by simpa [hb]using h⟩| false=>rw [hb]at h;exact .inl (by simpa [hb]using h)};exact .inr ⟨q,by simp [e],c,d⟩
theorem Ip {I:fK} {ρ:Pl} {e len sz:Nat} (hsz:sz=(T e).size) (hN:e<N) :
 ∀ (c:List (Nat×AV)) (vs:List Value) (g:Nat->AV) (cs:Array Value),(∀ p∈c,p.1<len/\fit T e p.2=true)->vs.length=c.length ->
  (∀ (i:Nat) (p:Nat×AV) (v:Value),c[i]? = some p->vs[i]? = some v -> ∃ sg,Rep T N I ρ p.2 sg/\v.cells=sg.toArray/\sg.length=sz)->cs.size=len*sz ->
  (∀ i,i<len -> ∃ seg,Rep T N I ρ (g i) seg/\fit T e (g i)=true/\seg.length=sz /\ ∀ o,o<sz->cs[i*sz+o]? = seg[o]?) ->
  ∃ cs',Instr.fill (λi=>some (i*sz,sz)) cs ((c.map (·.1)).zip vs)=some cs'/\cs'.size=len*sz /\
   ∀ i,i<len -> ∃ seg,Rep T N I ρ (c.foldl (λa p=>bif Nat.beq p.1 i then p.2 else a) (g i)) seg/\fit T e (c.foldl (λa p=>bif Nat.beq p.1 i then p.2 else a) (g i))=true/\seg.length=sz /\ ∀ o,o<sz->cs'[i*sz+o]? = seg[o]?
 | [],vs,g,cs,_,_,_,hcs,hg=>⟨cs,by simp [Instr.fill],hcs,hg⟩
 | p::c,[],g,cs,_,hlen,_,_,_=>by simp at hlen
 | p::c,v::vs,g,cs,hok,hlen,hvs,hcs,hg=>by
  obtain ⟨sg,s1,s2,t⟩:=hvs 0 p v rfl rfl;obtain ⟨j,k⟩:=hok p (by simp);have hb:(p.1+1)*sz<=len*sz:=ab7 _ j;rw [adK]at hb;obtain ⟨m,u,d2,l⟩:=foldl_set sg (p.1*sz) 0 cs (by omega);obtain ⟨cs',g1,g2,g3⟩:=Ip hsz hN c vs (λi=>bif Nat.beq p.1 i then p.2 else g i) m (λq hq=>hok q (by simp [hq])) (by simpa using hlen) (λi q w n r=>hvs (i+1) q w (by simpa using n) (by simpa using r)) (by omega)
   (
    λi hi=>by
    by_cases b:p.1=i
    ·subst b;refine ⟨sg,by simpa [aeY]using s1,by simpa [aeY]using k,t,λo s=>?_⟩;rw [l,aaU (by omega)];congr 1;omega
    ·obtain ⟨seg,y,z,e3,e4⟩:=hg i hi
     refine ⟨seg,by simpa [kJ b]using y,by simpa [kJ b]using z,e3,λo s=>?_⟩
     rw [l,Y0,e4 o s]
     rintro ⟨n,r⟩
     rcases Nat.lt_or_gt_of_ne b with h | h
     ·have:(p.1+1)*sz<=i*sz:=ab7 _ h;rw [adK]at this;omega
     ·have:(i+1)*sz<=p.1*sz:=ab7 _ h
      rw [adK]at this
      omega)
  refine ⟨cs',?_,g2,by simpa using g3⟩;simp only [aeh,List.zip_cons_cons,Instr.fill,s2];have d:(sg.toArray:Array Value).size=sz:=by simpa using t
  simp only [d];rw [Y0 (by simp;omega)];have f:sg.toArray.zipIdx.foldl (λcs (x:Value×Nat)=>cs.setIfInBounds (p.1*sz+x.2) x.1) cs=m:=by rw [<- u,<- Array.foldl_toList,Array.toList_zipIdx]
  simp only [f,g1]
set_option maxHeartbeats 1000000 in
theorem wP (hT:jf P T N) {en:Entry} {I:fK} {ρ:Pl} {st:St} {a:Act} {w:World} (hs:gJ T N en I ρ st a w) {G:D} {o:Oper} {r:R}
 (h:Tv T st G o=some r) (hc:ay r.c):G.tr/\Did P T N o I ρ st.m r (λw=>(execOp a.eval o).run P w) w:=by
 have hw:=hs.wr;unfold Tv at h;obtain ⟨f6,h⟩:=aB h;have hG:=oN f6
 refine ⟨hG,?_⟩;unfold execOp;cases j4:o.op <;> rw [j4]at h <;> try (cases h;done)
 case alloc t =>
  obtain ⟨hb,h⟩:=aB h;cases h;simp only [abe]at hb;obtain ⟨⟨⟨b1,b2⟩,b3⟩,b4⟩:=hb;have ht:=hT.lt_size (kF b1)
  obtain ⟨i,z,hi,hz,hf,hr⟩:=hT.zero t ht b2;refine IL hT hw ht (lI b3) (hr I ρ) hf (rC hT ht (hr I ρ) hf) ?_;refine nK ?_;simp only [Instr.alloc,zeroValue,typeInfo,Sem.run_bind,run_program,Result.andThen_ok,hi,hz,Sem.run_pure,Gv]
 case box t x =>
  simp only [aaC]at h;obtain ⟨b,h1,h⟩:=h;obtain ⟨hb,h⟩:=aB h;cases h;simp only [abe]at hb;obtain ⟨⟨⟨b1,b2⟩,b3⟩,b4⟩:=hb;have ht:=hT.lt_size (kF b1)
  have hr:=((bn hs hG h1 hc).rep1 (kV b2)).cells;refine IL hT hw ht (lI b3) hr b2 (rC hT ht hr b2) ?_;refine nK ?_;simp only [Instr.box,Sem.run_bind,Gv,Result.andThen_ok,Sem.run_pure]
 case store t x y =>
  simp only [aaC]at h;obtain ⟨b,h1,b',h2,h⟩:=h;split at h
  ·rename_i id n i p a7;split at h
   ·rename_i B hm;obtain ⟨hb,h⟩:=aB h;cases h;simp only [abe]at hb;obtain ⟨⟨b2,b3⟩,b4⟩:=hb;rw [aI,aI]at hc;have e1:B.n=n:=hc.2.2.1
    have e2:=uS b2;have a1:=bn hs hG h1 hc.1
    rw [a7]at a1;obtain ⟨q,hq,hn,hx⟩:=Rep.ptr_inv (a1.rep1 (λ_=>by simp));obtain ⟨q',cs,c1,c2,c3,c4,c5,_⟩:=hw.cellsAt hm hq;rw [hq]at c1;cases c1;obtain ⟨hi,j7,j9⟩:=hx (by rw [c3,e1]);have ht:=hT.pathLt p c4 e2
    have e3:=(bn hs hG h2 hc.2.1).rep1 (kV b3);have d4:=e3.cells
    have hl:=rC hT ht d4 b3;have j0:B.fz<=i:=hc.2.2.2
    refine Ko hT hw hm hq (by rw [e1];exact hi) e2 (c2▸j7) j0 d4 b3 hl (IJ b4) (λds h5 h6=>?_);rw [h5]at c5;cases c5;refine xB ?_;simp only [Instr.storeAt,j9,Instr.sureAddr,Sem.run_bind,Sem.run_pure,Result.andThen_ok];rw [<- c2];exact AB hT ht h5 (by simpa using hl) d4.cells_one (by rw [c2];simpa using h6)
   ·cases h
  ·cases h
 case buildSlice t len ps =>
  simp only [aaC]at h;obtain ⟨l,h1,h⟩:=h;split at h
  ·rename_i e hk;obtain ⟨hb,h⟩:=aB h;cases h;simp only [abe,adp]at hb;obtain ⟨⟨⟨⟨⟨b1,b2⟩,b3⟩,b4⟩,b5⟩,b6⟩:=hb;have he:=hT.slice t e hk
   have a0:=kF b4;obtain ⟨hl,f5⟩:=tq hs hG h1 hc;simp only [adF]at hl;obtain ⟨i,z,hi,hz,b7,b9⟩:=hT.zero e he b2;obtain ⟨i',a8,a3,a9⟩:=hT.info e he;rw [hi]at a8;cases a8;have b8:=rC hT he (b9 I ρ) b7
   have a4:z.cells.size=(T e).size:=by simpa using b8
   have k8:len*(T e).size<=16777216:=by simpa using b1
   obtain ⟨cs',f1,f2,f3⟩:=Ip (T:=T) (N:=N) (I:=I) (ρ:=ρ) (e:=e) (len:=len) rfl he ((ps.toList.map (·.1)).zip l.1) (ps.toList.map λx=>a.eval x.2) (λ_=>(T e).zero)
    (
     madeCells z.cells (len*(T e).size)) (λp hp=>by
     have:=b6 p hp;exact ⟨kF this.1.1,this.1.2⟩) (by simp [hl]) (λj p v hp hv=>by
     have h9:=b6 p (ac8 hp);rw [aem]at hp;obtain ⟨j5,j6⟩:=hp;simp only [ady,ade]at j5 hv;obtain ⟨q',j8,rfl⟩:=hv;have hr:=((f5 j q'.2 p.2 (by simp [j8]) j6).rep1 (kV h9.1.2)).cells
     exact ⟨_,hr,by simp,rC hT he hr h9.1.2⟩) (size_madeCells _ _) (λi hi=>⟨z.cells.toList,b9 I ρ,b7,b8,λo ho=>vI a4 ho (by
      have:(i+1)*(T e).size<=len*(T e).size:=ab7 _ hi;rw [adK]at this;omega)⟩)
   have e0:∀ j,fE (wB ((ps.toList.map (·.1)).zip l.1) (T e).zero j)=true:=λj=>by
    rcases Oe ((ps.toList.map (·.1)).zip l.1) (T e).zero j with h | ⟨p,hp,_,h⟩
    ·rw [h];exact b3
    ·rw [h];exact (b6 p hp).2
   have hI:=dY.imm_fresh (w':=w.alloc (.cells cs' e)) hw (b:=w.heap.size) (aa3 _) (λr hr=>fM w _ hr) (iZ w (.cells cs' e));have hex:∀ k,∃ seg,k<len->Rep T N I ρ (wB ((ps.toList.map (·.1)).zip l.1) (T e).zero k) seg/\fit T e (wB ((ps.toList.map (·.1)).zip l.1) (T e).zero k)=true/\seg.length=(T e).size /\ ∀ o,o<(T e).size->cs'[k*(T e).size+o]? = seg[o]? := by
    intro k;by_cases hk:k<len
    ·obtain ⟨seg,hs⟩:=f3 k hk;exact ⟨seg,λ_=>hs⟩
    ·exact ⟨[],λh=>absurd h hk⟩
   have c0:=λk=>adt (hex k);have d9:(((ps.toList.map (·.1)).zip l.1).map (·.1)).zip (ps.toList.map λx=>a.eval x.2)=(ps.map λx=>(x.1,a.eval x.2)).toList:=by
    rw [List.map_fst_zip (by simp [hl])];simp [List.zip_map',aev]
   rw [d9]at f1;refine ⟨_,w.alloc (.cells cs' e),_,ρ,nK (u := .slice (some ⟨w.heap.size,0,none⟩) len len) ?_,.inl ⟨_,rfl,.one ⟨[_],.row w.heap.size 0 len (λk=>Classical.choose (hex k)) he (aa3 _) ?_ (λ_=>rfl)
    (λk hk=>((c0 k hk).1.mono hI.1 (iJ.refl _)).fE (e0 k) _) (λk hk=>(c0 k hk).2.1) (λk hk=>(c0 k hk).2.2.1) (λk hk o ho=>?_),rfl⟩⟩,?_,by simpa [iP]using hI.2⟩
   ·have h8:¬ 16777216<len*(T e).size:=by omega
    by_cases h0:len*(T e).size=0
    ·have j3:madeCells z.cells (len*(T e).size) = #[]:=aek (by rw [size_madeCells,h0]);have f1':Instr.fill (λi=>some (i*(T e).size,(T e).size)) #[] (ps.map λx=>(x.1,a.eval x.2)).toList=some cs':=by rw [j3]at f1;exact f1
     simp only [aev]at f1';have hr0:(Array.map (λ_=>(default:Value)) (Array.range 0)) = #[]:=aek (by simp)
     simp [Instr.buildSlice,(hT.sli hk).2,hT.runSize he,h8,h0,hr0,f1',newRow]
    ·have f1':Instr.fill (λi=>some (i*(T e).size,(T e).size)) (madeCells z.cells (len*(T e).size)) (ps.map λx=>(x.1,a.eval x.2)).toList=some cs':=f1;simp only [aev,madeCells]at f1';simp [Instr.buildSlice,(hT.sli hk).2,hT.runSize he,h8,h0,zeroValue,typeInfo,hi,hz,f1',newRow]
   ·have:len*1<=len*(T e).size:=aez _ a0;omega
   ·have:=(c0 k hk).2.2.2 o ho;simp only [I8,ad5,acY];rw [adn];exact this
   ·exact Ev.imm_fresh hw (aa3 _) (λr hr=>fM w _ hr) (by simp) rfl rfl ⟨rfl,by first | exact aa3 _ | exact aeG _⟩
  ·cases h
 case makeSlice t x y =>
  simp only [aaC]at h;obtain ⟨b,h1,b',h2,h⟩:=h;split at h
  ·rename_i kl l kc c e a7 i8 hk;obtain ⟨hb,h⟩:=aB h;cases h;simp only [abe]at hb;obtain ⟨⟨⟨⟨b1,b2⟩,b3⟩,b4⟩,b5⟩:=hb;rw [aI,aI]at hc;obtain ⟨k1,k2,k3⟩:=hc;simp only [ay]at k3;obtain ⟨g1,g2,g3⟩:=k3;have a1:=bn hs hG h1 k1
   rw [a7]at a1;obtain ⟨ex,_⟩:=a1.v;have e3:=bn hs hG h2 k2
   rw [i8]at e3;obtain ⟨ey,_⟩:=e3.v;have he:=hT.slice t e hk
   have a0:=kF b2;have h3:=kF b3
   obtain ⟨i,z,hi,hz,b7,b9⟩:=hT.zero e he b1;obtain ⟨i',a8,a3,a9⟩:=hT.info e he;rw [hi]at a8;cases a8;have b8:=rC hT he (b9 I ρ) b7
   have a4:z.cells.size=(T e).size:=by simpa using b8
   have l5:c<=140737488355328:=by
    have h1:c*1<=c*((T e).bytes:Int):=Int.mul_le_mul_of_nonneg_left (by omega) (by omega);omega
   have s:=run_make (P:=P) w t e i z (hT.sli hk).1 hi hz kl kc l c g1 g2 (by rw [a9,Int.mul_comm];omega) (by omega);rw [a3]at s;have h7:l.toNat<=c.toNat:=by omega
   have i9:=dY.fresh (w':=w.alloc (.cells (madeCells z.cells (c.toNat*(T e).size)) e)) (B:=⟨e,l.toNat,λ_=>(T e).zero,0⟩) (b:=w.heap.size) (cs:=madeCells z.cells (c.toNat*(T e).size)) hw (hw.none_place (lI b4)) (aa3 _)
    (λr hr=>fM w _ hr) (iZ w _) he (by simp only [size_madeCells];exact ab7 _ h7) rfl
    (
     λi hi=>⟨z.cells.toList,b9 _ _,b7,b8,λo ho=>vI a4 ho (by
     have l7:o<(T e).size:=ho;have a8:i<l.toNat:=hi
     have:(i+1)*(T e).size<=c.toNat*(T e).size:=ab7 _ (by omega);rw [adK]at this;show i*(T e).size+o<_
     omega)⟩)
   refine ⟨_,_,I,_,by simp only [ex,ey];exact nK s,.inl ⟨_,rfl,.one ⟨[_],.own (ρ:=nJ ρ (site o) ⟨w.heap.size,e,l.toNat,(madeCells z.cells (c.toNat*(T e).size)).size⟩) _ (dW _ _ _) (aa3 _) rfl (λ_=>⟨c.toNat,?_⟩),rfl⟩⟩,?_,by simpa [iP]using i9.2⟩
   ·exact ⟨by simp [fF],h7,by omega,by omega,by simp only [size_madeCells,acY];exact aa3 _,λ_=>by simp only [size_madeCells,acY],λk hk=>by cases hk⟩
   ·exact Ev.fresh (hw.none_place (lI b4)) (aa3 _) (λr hr=>fM w _ hr) (by simp) rfl rfl ⟨rfl,by first | exact aa3 _ | exact aeG _⟩
  ·cases h
 case call c =>
  simp only at h;split at h
  ·rename_i x y t t' h4 f4 i0;simp only [aaC]at h;obtain ⟨b,h1,b',h2,h⟩:=h;split at h
   ·rename_i e hk;simp only [aaC]at h;obtain ⟨q,hq,h0⟩:=h;have hb:=(aB h0).1
    have h:=(aB h0).2;clear h0;simp only [abe]at hb;obtain ⟨⟨⟨⟨b1,b2⟩,b3⟩,b4⟩,b5⟩:=hb;have i5:=abJ b1
    subst i5;have ha:c.args = #[x,y]:=by apply ad4;simpa using f4
    have ht:c.argTypes = #[t,t]:=by apply ad4;simpa using i0
    have he:=hT.slice t e hk;have a0:=kF b3
    obtain ⟨i,z,hi,hz,b7,b9⟩:=hT.zero e he b5;obtain ⟨i',a8,a3,a9⟩:=hT.info e he;rw [hi]at a8;cases a8;have b8:=rC hT he (b9 I ρ) b7
    have a4:z.cells.size=(T e).size:=by simpa using b8
    have h3:=kF b4;have d3:∀ n:Nat,n*(T e).bytes<=140737488355328->n<=140737488355328:=λn hn=>aej (Nat.le_mul_of_pos_right _ h3) hn
    have a5:∀ v w',(Builtin.append_ #[t,t] o.type #[a.eval x,a.eval y]).run P w = .ok v w'->(do let d <- resolve a.eval c o.type;invoke d.target d.args:Sem Next).run P w = .ok (.value v) w':=by
     intro v w' hr;simp [resolve,h4,invoke,builtin,ha,ht,hr]
    split at h
    ·
      rename_i a7;obtain ⟨hn,h⟩:=aB (b:=isNone (st.m (site o))) h;cases h;rw [aI,aI,aI]at hc;obtain ⟨k1,k2,d6,k3⟩:=hc;simp only [ay]at k3;have a1:=bn hs hG h1 k1
      rw [a7]at a1;obtain ⟨ex,_⟩:=a1.v;obtain ⟨ad,mc,news,ey,n1,n2,n3,n4,n5⟩:=Az hT hw a0 ((bn hs hG h2 k2).rep1 (by
       intro vs d5;rw [d5]at hq;cases hq)) hq d6 (hT.sli hk).1 hi o.type
      have j1:=oh w q.1 0 e;have s:=run_append_nil (P:=P) w t o.type e i z (hT.sli hk).1 hi hz ad q.1 mc news (by rw [a3];exact n1) n2 k3.1 (by omega) (by rw [a9];omega)
      have s:=ey _ _ _ _ _ _ (aa3 _) s;rw [<- ex]at s;have hd:=nV (id:=site o) (run:=λw=>(do let d <- resolve a.eval c o.type;invoke d.target d.args:Sem Next).run P w) (o:=o) (n:=0) (k:=q.1) (cap:=grownCap w q.1 0 e) (g:=λ_=>(T e).zero) (h:=q.2.1) (c:=fP b.2 (fP b'.2 (fP (nP st.m b'.1) (some (0<q.1/\q.1*(T e).bytes<=140737488355328))))) (f:=site o::q.2.2) (olds:=[]) (news:=news)
       (
        rest:=Builtin.zeroCells z.cells (grownCap w q.1 0 e - q.1)) hT hw he (hw.none_place (lI hn)) (by simp) n1 (by omega) (nT w _ _ _ n4) (by simp [jK,a4]) (λi hi=>by omega) n5 (by
        have:=a5 _ _ s;simpa using this)
      simpa using hd
    ·
      rename_i u n g a7;obtain ⟨hn,h⟩:=aB (b:=Nat.beq u e&&isNone (st.m (site o))) h;cases h;simp only [abe]at hn;have eu:=abJ hn.1
      subst eu;rw [aI,aI,aI]at hc;obtain ⟨k1,k2,d6,k3⟩:=hc;simp only [ay]at k3;have a1:=bn hs hG h1 k1
      rw [a7]at a1;obtain ⟨ad,mc,news,ey,n1,n2,n3,n4,n5⟩:=Az hT hw a0 ((bn hs hG h2 k2).rep1 (by
       intro vs d5;rw [d5]at hq;cases hq)) hq d6 (hT.sli hk).1 hi o.type
      rcases Rep.row_inv (a1.rep1 (λ_=>by simp))with ⟨⟨ba,ex⟩,rfl,_⟩ | ⟨bb,off,cap,segs,_,g2,g3,g4,g5,g6,g7,g8,ex⟩
      ·cases ba with
       | none =>
        simp only [acY]at k3;have s:=run_append_nil (P:=P) w t o.type u i z (hT.sli hk).1 hi hz ad q.1 mc news (by rw [a3];exact n1) n2 k3.1 (by omega) (by rw [a9];omega)
        have s:=ey _ _ _ _ _ _ (aa3 _) s;rw [<- ex]at s;have j1:=oh w q.1 0 u
        have hd:=nV (id:=site o) (run:=λw=>(do let d <- resolve a.eval c o.type;invoke d.target d.args:Sem Next).run P w) (o:=o) (n:=0) (k:=q.1) (cap:=grownCap w q.1 0 u) (g:=g) (h:=q.2.1) (c:=fP b.2 (fP b'.2 (fP (nP st.m b'.1) (some (0<q.1/\(0+q.1)*(T u).bytes<=140737488355328))))) (f:=site o::q.2.2) (olds:=[]) (news:=news)
         (
          rest:=Builtin.zeroCells z.cells (grownCap w q.1 0 u - q.1)) hT hw he (hw.none_place (lI hn.2)) (by simp) n1 (by omega) (nT w _ _ _ n4) (by simp [jK,a4]) (λi hi=>by omega) n5 (by
          have:=a5 _ _ s;simpa using this)
        simpa using hd
       | some ba =>
        have e6:=d3 _ k3.2;have s:=run_append_grow (P:=P) w t o.type u i z (hT.sli hk).1 hi hz ba 0 0 [] (by simp) (λj v hv=>by simp at hv) ad q.1 mc news (by rw [a3];exact n1) n2 (by omega) (by omega) (growslice_fits (by omega) (by rw [a9];exact k3.2))
        have s:=ey _ _ _ _ _ _ (aa3 _) s;rw [<- ex]at s;exact nV (id:=site o) (o:=o) (g:=g) (h:=q.2.1) (olds:=[]) hT hw he (hw.none_place (lI hn.2)) (by simp) n1 (oh w _ _ _) (nT w _ _ _ (by omega)) (by simp [jK,a4])
         (λi hi=>by omega) n5 (a5 _ _ s)
      obtain rfl:=g4 rfl;have e6:=d3 _ k3.2
      have s:=run_append_grow (P:=P) w t o.type u i z (hT.sli hk).1 hi hz ⟨bb,off,none⟩ cap cap ((List.range cap).flatMap segs) (by rw [a3];exact iR segs g7) (λj v hv=>by
       have hj:j<cap*(T u).size:=by rw [<- iR segs g7];exact (List.getElem?_eq_some_iff.1 hv).1
       rw [mM segs a0 g7 hj]at hv;rw [jD];have hk:=g8 (j / (T u).size) (div_lt a0 hj) (j % (T u).size) (aeZ _ a0)
       rw [hv,show j / (T u).size*(T u).size+j % (T u).size=j from by rw [aer];exact aeM j _]at hk;exact hw.imm _ _ _ hk) ad q.1 mc news (by rw [a3];exact n1) n2 (by omega) (by omega) (growslice_fits (by omega) (by rw [a9];exact k3.2))
      have s:=ey _ _ _ _ _ _ (aa3 _) s;rw [<- ex]at s;exact nV (id:=site o) (o:=o) (g:=g) (h:=q.2.1) hT hw he (hw.none_place (lI hn.2)) (iR segs g7) n1 (oh w _ _ _) (nT w _ _ _ (by omega)) (by simp [jK,a4])
       (λi hi=>⟨segs i,(g5 i hi).mono (iK.refl _) (FP _),g6 i hi,g7 i hi,λo ho=>jA segs g7 hi ho⟩) n5 (a5 _ _ s)
    ·
      rename_i id n len a7;split at h
      ·rename_i B hm;obtain ⟨hn,h⟩:=aB (b:=Nat.beq B.ty e) h;cases h;have eu:=abJ hn
       subst eu;rw [aI,aI,aI]at hc;obtain ⟨k1,k2,d6,k3⟩:=hc;simp only [ay]at k3;obtain ⟨en,el,k3⟩:=k3;subst el en;have a1:=bn hs hG h1 k1
       rw [a7]at a1;obtain ⟨ad,mc,news,ey,n1,n2,n3,n4,n5⟩:=Az hT hw a0 ((bn hs hG h2 k2).rep1 (by
        intro vs d5;rw [d5]at hq;cases hq)) hq d6 (hT.sli hk).1 hi o.type
       have e6:=d3 _ k3.2;rcases Rep.own_inv (a1.rep1 (λ_=>by simp))with ⟨ex,g9,_,_⟩ | ⟨p,hp,l6,hx⟩
       ·have j2:0<q.1:=by omega
        refine Fj (ty:=o.type) (mc:=mc) (a:=ad) (news:=news) hT hw hm g9 he (hT.sli hk).1 hi hz a3 a4 n1 n2 j2 (by omega) (by rw [a9];have:=k3.2;rw [g9,acY]at this;exact this) n5 (λv w' hr=>?_);have hr:=ey _ _ _ _ _ _ (aa3 _) hr
        rw [<- ex]at hr;exact a5 _ _ hr
       obtain ⟨p',cs,c1,c2,c3,c4,c5,c6,_⟩:=hw.cellsAt hm hp;rw [hp]at c1;cases c1;obtain ⟨cc,ex,g1,g2,g3,g4,g5,g6⟩:=hx c3;simp only [Nat.zero_mul]at ex;refine IQ (ty:=o.type) (mc:=mc) (a:=ad) (news:=news) hT hw hm hp (hT.sli hk).1 hi hz a3 a4 g1 g2 (by have:=g5 rfl;rw [c2,acY]at this;exact this) n1 n2 n3 (by omega) (by rw [a9];exact k3.2) a0 n5 (λv w' hr=>?_);have hr:=ey _ _ _ _ _ _ g1 hr
       rw [<- ex]at hr;exact a5 _ _ hr
      ·cases h
    ·cases h
   ·cases h
  ·cases h
end
end Go.Ab
