/- Part 12 of a proof of a statement about the given program: an abstract machine over the model, proved sound, and contracts of the functions that the statement reaches; the last part proves the statement, for every input, with no condition. -/
import Derived.Test.YtcfelhfcjdofoaaGreatDoorX10
set_option autoImplicit false
set_option linter.unusedSimpArgs false
set_option linter.unusedVariables false
namespace Go.Ab
section
variable {P:Program} {T:Nat→TI} {N:Nat}
theorem iJ {s:Sem Value} {w w':World} {u:Value} (h:s.run P w = .ok u w'):(do pure (Next.value (← s)):Sem Next).run P w = .ok (.value u) w':=by simp [h]
theorem nH {s:Sem Unit} {w w':World} (h:s.run P w = .ok () w'):(do s;pure Next.skip:Sem Next).run P w = .ok .skip w':=by simp [h]
theorem yR {o:Oper} (h:(!isDst o)=true):o.dst=none:=by
 unfold isDst at h;split at h
 ·cases h
 ·assumption
theorem iw {a b:Nat} (h:Nat.blt a b=true):a<b:=by simpa [Nat.blt_eq]using h
theorem Cc (ps:List (Nat×AV)) (z:AV) (j:Nat):qR ps z j=z ∨ ∃ p∈ps,p.1=j∧qR ps z j=p.2:=by
 unfold qR;suffices h:∀ (ps:List (Nat×AV)) (a:AV),(ps.foldl (fun a p=>bif Nat.beq p.1 j then p.2 else a) a=a) ∨ ∃ p∈ps,p.1=j∧ps.foldl (fun a p=>bif Nat.beq p.1 j then p.2 else a) a=p.2 from h ps z
 intro ps
 induction ps with
 | nil=>intro a;exact .inl rfl
 | cons p ps ih =>
  intro a;simp only [List.foldl_cons];rcases ih (bif Nat.beq p.1 j then p.2 else a)with h | ⟨q,hq,h1,h2⟩
  ·cases hb:Nat.beq p.1 j with
   | true =>
    rw [hb]at h;exact .inr ⟨p,by simp,Nat.eq_of_beq_eq_true hb,by simpa [hb]using h⟩
   | false =>
    rw [hb]at h;exact .inl (by simpa [hb]using h)
  ·exact .inr ⟨q,by simp [hq],h1,h2⟩
theorem yM {I:Imm} {ρ:Pl} {e len sz:Nat} (hsz:sz=(T e).size) (hN:e<N) :
 ∀ (ps:List (Nat×AV)) (vs:List Value) (g:Nat→AV) (cs:Array Value),(∀ p∈ps,p.1<len∧fit T e p.2=true)→vs.length=ps.length →
  (∀ (i:Nat) (p:Nat×AV) (v:Value),ps[i]? = some p→vs[i]? = some v → ∃ sg,Rep T N I ρ p.2 sg∧v.cells=sg.toArray∧sg.length=sz)→cs.size=len*sz →
  (∀ i,i<len → ∃ seg,Rep T N I ρ (g i) seg∧fit T e (g i)=true∧seg.length=sz ∧ ∀ o,o<sz→cs[i*sz+o]? = seg[o]?) →
  ∃ cs',Instr.fill (fun i=>some (i*sz,sz)) cs ((ps.map (·.1)).zip vs)=some cs'∧cs'.size=len*sz ∧
   ∀ i,i<len → ∃ seg,Rep T N I ρ (ps.foldl (fun a p=>bif Nat.beq p.1 i then p.2 else a) (g i)) seg∧fit T e (ps.foldl (fun a p=>bif Nat.beq p.1 i then p.2 else a) (g i))=true∧seg.length=sz ∧ ∀ o,o<sz→cs'[i*sz+o]? = seg[o]?
 | [],vs,g,cs,_,_,_,hcs,hg=>⟨cs,by simp [Instr.fill],hcs,hg⟩
 | p::ps,[],g,cs,_,hlen,_,_,_=>by simp at hlen
 | p::ps,v::vs,g,cs,hok,hlen,hvs,hcs,hg=>by
  obtain ⟨sg,s1,s2,s3⟩:=hvs 0 p v rfl rfl;obtain ⟨hp1,hp2⟩:=hok p (by simp);have hb:(p.1+1)*sz≤len*sz:=Nat.mul_le_mul_right _ hp1
  rw [Nat.succ_mul]at hb;obtain ⟨ds,d1,d2,d3⟩:=foldl_set sg (p.1*sz) 0 cs (by omega);obtain ⟨cs',g1,g2,g3⟩:=yM hsz hN ps vs (fun i=>bif Nat.beq p.1 i then p.2 else g i) ds (fun q hq=>hok q (by simp [hq])) (by simpa using hlen) (fun i q w h1 h2=>hvs (i+1) q w (by simpa using h1) (by simpa using h2)) (by omega)
   (
    fun i hi=>by
    by_cases hip:p.1=i
    ·subst hip;refine ⟨sg,by simpa [Nat.beq_refl]using s1,by simpa [Nat.beq_refl]using hp2,s3,fun o ho=>?_⟩;rw [d3,if_pos (by omega)];congr 1;omega
    ·obtain ⟨seg,e1,e2,e3,e4⟩:=hg i hi;refine ⟨seg,by simpa [gQ hip]using e1,by simpa [gQ hip]using e2,e3,fun o ho=>?_⟩;rw [d3,if_neg,e4 o ho];rintro ⟨h1,h2⟩;rcases Nat.lt_or_gt_of_ne hip with h | h
     ·have:(p.1+1)*sz≤i*sz:=Nat.mul_le_mul_right _ h;rw [Nat.succ_mul]at this;omega
     ·have:(i+1)*sz≤p.1*sz:=Nat.mul_le_mul_right _ h;rw [Nat.succ_mul]at this;omega)
  refine ⟨cs',?_,g2,by simpa using g3⟩;simp only [List.map_cons,List.zip_cons_cons,Instr.fill,s2];have hsz':(sg.toArray:Array Value).size=sz:=by simpa using s3
  simp only [hsz'];rw [if_neg (by simp;omega)];have d1':sg.toArray.zipIdx.foldl (fun cs (x:Value×Nat)=>cs.setIfInBounds (p.1*sz+x.2) x.1) cs=ds:=by
   rw [← d1,← Array.foldl_toList,Array.toList_zipIdx]
  simp only [d1',g1]
set_option maxHeartbeats 1000000 in
theorem nZ (hT:TOK P T N) {en:Entry} {I:Imm} {ρ:Pl} {st:St} {a:Act} {w:World} (hs:dU T N en I ρ st a w) {G:D} {o:Oper} {r:R}
 (h:evW T st G o=some r) (hc:aj r.c):G.tr∧Did P T N o I ρ st.m r (fun w=>(execOp a.eval o).run P w) w:=by
 have hw:=hs.wr;unfold evW at h;obtain ⟨hsure,h⟩:=ak h;have hG:=jE hsure
 refine ⟨hG,?_⟩;unfold execOp;cases hop:o.op <;> rw [hop]at h <;> try (cases h;done)
 case alloc t =>
  obtain ⟨hb,h⟩:=ak h;cases h;simp only [Bool.and_eq_true]at hb;obtain ⟨⟨⟨b1,b2⟩,b3⟩,b4⟩:=hb;have ht:=hT.lt_size (iw b1)
  obtain ⟨i,z,hi,hz,hf,hr⟩:=hT.zero t ht b2;refine xC hT hw ht (iq b3) (hr I ρ) hf (kQ hT ht (hr I ρ) hf) ?_;refine iJ ?_;simp only [Instr.alloc,zeroValue,typeInfo,Sem.run_bind,run_program,Result.andThen_ok,hi,hz,Sem.run_pure,wM]
 case box t x =>
  simp only [Option.bind_eq_some_iff]at h;obtain ⟨b,h1,h⟩:=h;obtain ⟨hb,h⟩:=ak h;cases h;simp only [Bool.and_eq_true]at hb;obtain ⟨⟨⟨b1,b2⟩,b3⟩,b4⟩:=hb;have ht:=hT.lt_size (iw b1)
  have hr:=((aI hs hG h1 hc).rep1 (gq b2)).cells;refine xC hT hw ht (iq b3) hr b2 (kQ hT ht hr b2) ?_;refine iJ ?_;simp only [Instr.box,Sem.run_bind,wM,Result.andThen_ok,Sem.run_pure]
 case store t x y =>
  simp only [Option.bind_eq_some_iff]at h;obtain ⟨b,h1,b',h2,h⟩:=h;split at h
  ·rename_i id n i p hbx;split at h
   ·rename_i B hm;obtain ⟨hb,h⟩:=ak h;cases h;simp only [Bool.and_eq_true]at hb;obtain ⟨⟨b2,b3⟩,b4⟩:=hb;rw [aB,aB]at hc;have e1:B.n=n:=hc.2.2.1
    have e2:=nS b2;have hrx:=aI hs hG h1 hc.1
    rw [hbx]at hrx;obtain ⟨q,hq,hn,hx⟩:=Rep.ptr_inv (hrx.rep1 (fun _=>by simp));obtain ⟨q',cs,c1,c2,c3,c4,c5,_⟩:=hw.cellsAt hm hq;rw [hq]at c1;cases c1;obtain ⟨hi,hpi,hyv⟩:=hx (by rw [c3,e1]);have ht:=hT.pathLt p c4 e2
    have hry:=(aI hs hG h2 hc.2.1).rep1 (gq b3);have hryc:=hry.cells
    have hl:=kQ hT ht hryc b3;have hfz:B.fz≤i:=hc.2.2.2
    refine Bo hT hw hm hq (by rw [e1];exact hi) e2 (c2▸hpi) hfz hryc b3 hl (yR b4) (fun ds hds hfit=>?_);rw [hds]at c5;cases c5;refine nH ?_;simp only [Instr.storeAt,hyv,Instr.sureAddr,Sem.run_bind,Sem.run_pure,Result.andThen_ok];rw [← c2];exact qc hT ht hds (by simpa using hl) hryc.cells_one (by rw [c2];simpa using hfit)
   ·cases h
  ·cases h
 case buildSlice t len ps =>
  simp only [Option.bind_eq_some_iff]at h;obtain ⟨l,h1,h⟩:=h;split at h
  ·rename_i e hk;obtain ⟨hb,h⟩:=ak h;cases h;simp only [Bool.and_eq_true,List.all_eq_true]at hb;obtain ⟨⟨⟨⟨⟨b1,b2⟩,b3⟩,b4⟩,b5⟩,b6⟩:=hb;have he:=hT.slice t e hk
   have hpos:=iw b4;obtain ⟨hl,hreps⟩:=lC hs hG h1 hc;simp only [List.length_map]at hl;obtain ⟨i,z,hi,hz,hzf,hzr⟩:=hT.zero e he b2;obtain ⟨i',hi',his,hib⟩:=hT.info e he;rw [hi]at hi';cases hi';have hzl:=kQ hT he (hzr I ρ) hzf
   have hzs:z.cells.size=(T e).size:=by simpa using hzl
   have hble:len*(T e).size≤16777216:=by simpa using b1
   obtain ⟨cs',f1,f2,f3⟩:=yM (T:=T) (N:=N) (I:=I) (ρ:=ρ) (e:=e) (len:=len) rfl he ((ps.toList.map (·.1)).zip l.1) (ps.toList.map fun x=>a.eval x.2) (fun _=>(T e).zero)
    (
     madeCells z.cells (len*(T e).size)) (fun p hp=>by
     have:=b6 p hp;exact ⟨iw this.1.1,this.1.2⟩) (by simp [hl]) (fun j p v hp hv=>by
     have hp6:=b6 p (List.mem_of_getElem? hp);rw [List.getElem?_zip_eq_some]at hp;obtain ⟨hp1,hp2⟩:=hp;simp only [List.getElem?_map,Option.map_eq_some_iff]at hp1 hv;obtain ⟨q',hq',rfl⟩:=hv;have hr:=((hreps j q'.2 p.2 (by simp [hq']) hp2).rep1 (gq hp6.1.2)).cells
     exact ⟨_,hr,by simp,kQ hT he hr hp6.1.2⟩) (size_madeCells _ _) (fun i hi=>⟨z.cells.toList,hzr I ρ,hzf,hzl,fun o ho=>lY hzs ho (by
      have:(i+1)*(T e).size≤len*(T e).size:=Nat.mul_le_mul_right _ hi;rw [Nat.succ_mul]at this;omega)⟩)
   have hplain:∀ j,dw (qR ((ps.toList.map (·.1)).zip l.1) (T e).zero j)=true:=fun j=>by
    rcases Cc ((ps.toList.map (·.1)).zip l.1) (T e).zero j with h | ⟨p,hp,_,h⟩
    ·rw [h];exact b3
    ·rw [h];exact (b6 p hp).2
   have hI:=dR.imm_fresh (w':=w.alloc (.cells cs' e)) hw (b:=w.heap.size) (Nat.le_refl _) (fun r hr=>bF w _ hr) (dF w (.cells cs' e));have hex:∀ k,∃ seg,k<len→Rep T N I ρ (qR ((ps.toList.map (·.1)).zip l.1) (T e).zero k) seg∧fit T e (qR ((ps.toList.map (·.1)).zip l.1) (T e).zero k)=true∧seg.length=(T e).size ∧ ∀ o,o<(T e).size→cs'[k*(T e).size+o]? = seg[o]? := by
    intro k;by_cases hk:k<len
    ·obtain ⟨seg,hs⟩:=f3 k hk;exact ⟨seg,fun _=>hs⟩
    ·exact ⟨[],fun h=>absurd h hk⟩
   have hseg:=fun k=>Classical.choose_spec (hex k);have hparts:(((ps.toList.map (·.1)).zip l.1).map (·.1)).zip (ps.toList.map fun x=>a.eval x.2)=(ps.map fun x=>(x.1,a.eval x.2)).toList:=by
    rw [List.map_fst_zip (by simp [hl])];simp [List.zip_map',Array.toList_map]
   rw [hparts]at f1;refine ⟨_,w.alloc (.cells cs' e),_,ρ,iJ (u := .slice (some ⟨w.heap.size,0,none⟩) len len) ?_,.inl ⟨_,rfl,.one ⟨[_],.row w.heap.size 0 len (fun k=>Classical.choose (hex k)) he (Nat.le_refl _) ?_ (fun _=>rfl)
    (fun k hk=>((hseg k hk).1.mono hI.1 (iP.refl _)).dw (hplain k) _) (fun k hk=>(hseg k hk).2.1) (fun k hk=>(hseg k hk).2.2.1) (fun k hk o ho=>?_),rfl⟩⟩,?_,by simpa [je]using hI.2⟩
   ·have hno:¬ 16777216<len*(T e).size:=by omega
    by_cases h0:len*(T e).size=0
    ·have hm0:madeCells z.cells (len*(T e).size) = #[]:=Array.eq_empty_of_size_eq_zero (by rw [size_madeCells,h0]);have f1':Instr.fill (fun i=>some (i*(T e).size,(T e).size)) #[] (ps.map fun x=>(x.1,a.eval x.2)).toList=some cs':=by rw [hm0]at f1;exact f1
     simp only [Array.toList_map]at f1';have hr0:(Array.map (fun _=>(default:Value)) (Array.range 0)) = #[]:=Array.eq_empty_of_size_eq_zero (by simp)
     simp [Instr.buildSlice,(hT.sli hk).2,hT.runSize he,hno,h0,hr0,f1',newRow]
    ·have f1':Instr.fill (fun i=>some (i*(T e).size,(T e).size)) (madeCells z.cells (len*(T e).size)) (ps.map fun x=>(x.1,a.eval x.2)).toList=some cs':=f1;simp only [Array.toList_map,madeCells]at f1';simp [Instr.buildSlice,(hT.sli hk).2,hT.runSize he,hno,h0,zeroValue,typeInfo,hi,hz,f1',newRow]
   ·have:len*1≤len*(T e).size:=Nat.mul_le_mul_left _ hpos;omega
   ·have:=(hseg k hk).2.2.2 o ho;simp only [JO,if_true,Nat.zero_add];rw [Array.getElem?_toList];exact this
   ·exact Ev.imm_fresh hw (Nat.le_refl _) (fun r hr=>bF w _ hr) (by simp) rfl rfl ⟨rfl,by first | exact Nat.le_refl _ | exact Nat.le_succ _⟩
  ·cases h
 case makeSlice t x y =>
  simp only [Option.bind_eq_some_iff]at h;obtain ⟨b,h1,b',h2,h⟩:=h;split at h
  ·rename_i kl l kc c e hbx hby hk;obtain ⟨hb,h⟩:=ak h;cases h;simp only [Bool.and_eq_true]at hb;obtain ⟨⟨⟨⟨b1,b2⟩,b3⟩,b4⟩,b5⟩:=hb;rw [aB,aB]at hc;obtain ⟨k1,k2,k3⟩:=hc;simp only [aj]at k3;obtain ⟨g1,g2,g3⟩:=k3;have hrx:=aI hs hG h1 k1
   rw [hbx]at hrx;obtain ⟨ex,_⟩:=hrx.v;have hry:=aI hs hG h2 k2
   rw [hby]at hry;obtain ⟨ey,_⟩:=hry.v;have he:=hT.slice t e hk
   have hpos:=iw b2;have hbp:=iw b3
   obtain ⟨i,z,hi,hz,hzf,hzr⟩:=hT.zero e he b1;obtain ⟨i',hi',his,hib⟩:=hT.info e he;rw [hi]at hi';cases hi';have hzl:=kQ hT he (hzr I ρ) hzf
   have hzs:z.cells.size=(T e).size:=by simpa using hzl
   have hcb:c≤140737488355328:=by
    have h1:c*1≤c*((T e).bytes:Int):=Int.mul_le_mul_of_nonneg_left (by omega) (by omega);omega
   have hrun:=run_make (P:=P) w t e i z (hT.sli hk).1 hi hz kl kc l c g1 g2 (by rw [hib,Int.mul_comm];omega) (by omega);rw [his]at hrun;have hlc:l.toNat≤c.toNat:=by omega
   have hfr:=dR.fresh (w':=w.alloc (.cells (madeCells z.cells (c.toNat*(T e).size)) e)) (B:=⟨e,l.toNat,fun _=>(T e).zero,0⟩) (b:=w.heap.size) (cs:=madeCells z.cells (c.toNat*(T e).size)) hw (hw.none_place (iq b4)) (Nat.le_refl _)
    (fun r hr=>bF w _ hr) (dF w _) he (by simp only [size_madeCells];exact Nat.mul_le_mul_right _ hlc) rfl
    (
     fun i hi=>⟨z.cells.toList,hzr _ _,hzf,hzl,fun o ho=>lY hzs ho (by
     have ho':o<(T e).size:=ho;have hi':i<l.toNat:=hi
     have:(i+1)*(T e).size≤c.toNat*(T e).size:=Nat.mul_le_mul_right _ (by omega);rw [Nat.succ_mul]at this;show i*(T e).size+o<_
     omega)⟩)
   refine ⟨_,_,I,_,by simp only [ex,ey];exact iJ hrun,.inl ⟨_,rfl,.one ⟨[_],.own (ρ:=mZ ρ (site o) ⟨w.heap.size,e,l.toNat,(madeCells z.cells (c.toNat*(T e).size)).size⟩) _ (aU _ _ _) (Nat.le_refl _) rfl (fun _=>⟨c.toNat,?_⟩),rfl⟩⟩,?_,by simpa [je]using hfr.2⟩
   ·exact ⟨by simp [bZ],hlc,by omega,by omega,by simp only [size_madeCells,Nat.zero_add];exact Nat.le_refl _,fun _=>by simp only [size_madeCells,Nat.zero_add],fun k hk=>by cases hk⟩
   ·exact Ev.fresh (hw.none_place (iq b4)) (Nat.le_refl _) (fun r hr=>bF w _ hr) (by simp) rfl rfl ⟨rfl,by first | exact Nat.le_refl _ | exact Nat.le_succ _⟩
  ·cases h
 case call c =>
  simp only at h;split at h
  ·rename_i x y t t' hcal hargs htys;simp only [Option.bind_eq_some_iff]at h;obtain ⟨b,h1,b',h2,h⟩:=h;split at h
   ·rename_i e hk;simp only [Option.bind_eq_some_iff]at h;obtain ⟨q,hq,h0⟩:=h;have hb:=(ak h0).1
    have h:=(ak h0).2;clear h0;simp only [Bool.and_eq_true]at hb;obtain ⟨⟨⟨⟨b1,b2⟩,b3⟩,b4⟩,b5⟩:=hb;have ett:=Nat.eq_of_beq_eq_true b1
    subst ett;have ha:c.args = #[x,y]:=by apply Array.ext';simpa using hargs
    have ht:c.argTypes = #[t,t]:=by apply Array.ext';simpa using htys
    have he:=hT.slice t e hk;have hpos:=iw b3
    obtain ⟨i,z,hi,hz,hzf,hzr⟩:=hT.zero e he b5;obtain ⟨i',hi',his,hib⟩:=hT.info e he;rw [hi]at hi';cases hi';have hzl:=kQ hT he (hzr I ρ) hzf
    have hzs:z.cells.size=(T e).size:=by simpa using hzl
    have hbp:=iw b4;have hbig:∀ n:Nat,n*(T e).bytes≤140737488355328→n≤140737488355328:=fun n hn=>Nat.le_trans (Nat.le_mul_of_pos_right _ hbp) hn
    have exec:∀ v w',(Builtin.append_ #[t,t] o.type #[a.eval x,a.eval y]).run P w = .ok v w'→(do let d ← resolve a.eval c o.type;invoke d.target d.args:Sem Next).run P w = .ok (.value v) w':=by
     intro v w' hr;simp [resolve,hcal,invoke,builtin,ha,ht,hr]
    split at h
    ·
      rename_i hbx;obtain ⟨hn,h⟩:=ak (b:=isNone (st.m (site o))) h;cases h;rw [aB,aB,aB]at hc;obtain ⟨k1,k2,knn,k3⟩:=hc;simp only [aj]at k3;have hrx:=aI hs hG h1 k1
      rw [hbx]at hrx;obtain ⟨ex,_⟩:=hrx.v;obtain ⟨ad,mc,news,ey,n1,n2,n3,n4,n5⟩:=qN hT hw hpos ((aI hs hG h2 k2).rep1 (by
       intro vs hvs;rw [hvs]at hq;cases hq)) hq knn (hT.sli hk).1 hi o.type
      have hge:=iZ w q.1 0 e;have hrun:=run_append_nil (P:=P) w t o.type e i z (hT.sli hk).1 hi hz ad q.1 mc news (by rw [his];exact n1) n2 k3.1 (by omega) (by rw [hib];omega)
      have hrun:=ey _ _ _ _ _ _ (Nat.le_refl _) hrun;rw [← ex]at hrun;have hd:=iL (id:=site o) (run:=fun w=>(do let d ← resolve a.eval c o.type;invoke d.target d.args:Sem Next).run P w) (o:=o) (n:=0) (k:=q.1) (cap:=grownCap w q.1 0 e) (g:=fun _=>(T e).zero) (h:=q.2.1) (c:=fG b.2 (fG b'.2 (fG (nOf st.m b'.1) (some (0<q.1∧q.1*(T e).bytes≤140737488355328))))) (f:=site o::q.2.2) (olds:=[]) (news:=news)
       (
        rest:=Builtin.zeroCells z.cells (grownCap w q.1 0 e - q.1)) hT hw he (hw.none_place (iq hn)) (by simp) n1 (by omega) (iV w _ _ _ n4) (by simp [dZ,hzs]) (fun i hi=>by omega) n5 (by
        have:=exec _ _ hrun;simpa using this)
      simpa using hd
    ·
      rename_i u n g hbx;obtain ⟨hn,h⟩:=ak (b:=Nat.beq u e&&isNone (st.m (site o))) h;cases h;simp only [Bool.and_eq_true]at hn;have eu:=Nat.eq_of_beq_eq_true hn.1
      subst eu;rw [aB,aB,aB]at hc;obtain ⟨k1,k2,knn,k3⟩:=hc;simp only [aj]at k3;have hrx:=aI hs hG h1 k1
      rw [hbx]at hrx;obtain ⟨ad,mc,news,ey,n1,n2,n3,n4,n5⟩:=qN hT hw hpos ((aI hs hG h2 k2).rep1 (by
       intro vs hvs;rw [hvs]at hq;cases hq)) hq knn (hT.sli hk).1 hi o.type
      rcases Rep.row_inv (hrx.rep1 (fun _=>by simp))with ⟨⟨ba,ex⟩,rfl,_⟩ | ⟨bb,off,cap,segs,_,g2,g3,g4,g5,g6,g7,g8,ex⟩
      ·cases ba with
       | none =>
        simp only [Nat.zero_add]at k3;have hrun:=run_append_nil (P:=P) w t o.type u i z (hT.sli hk).1 hi hz ad q.1 mc news (by rw [his];exact n1) n2 k3.1 (by omega) (by rw [hib];omega)
        have hrun:=ey _ _ _ _ _ _ (Nat.le_refl _) hrun;rw [← ex]at hrun;have hge:=iZ w q.1 0 u
        have hd:=iL (id:=site o) (run:=fun w=>(do let d ← resolve a.eval c o.type;invoke d.target d.args:Sem Next).run P w) (o:=o) (n:=0) (k:=q.1) (cap:=grownCap w q.1 0 u) (g:=g) (h:=q.2.1) (c:=fG b.2 (fG b'.2 (fG (nOf st.m b'.1) (some (0<q.1∧(0+q.1)*(T u).bytes≤140737488355328))))) (f:=site o::q.2.2) (olds:=[]) (news:=news)
         (
          rest:=Builtin.zeroCells z.cells (grownCap w q.1 0 u - q.1)) hT hw he (hw.none_place (iq hn.2)) (by simp) n1 (by omega) (iV w _ _ _ n4) (by simp [dZ,hzs]) (fun i hi=>by omega) n5 (by
          have:=exec _ _ hrun;simpa using this)
        simpa using hd
       | some ba =>
        have hs63:=hbig _ k3.2;have hrun:=run_append_grow (P:=P) w t o.type u i z (hT.sli hk).1 hi hz ba 0 0 [] (by simp) (fun j v hv=>by simp at hv) ad q.1 mc news (by rw [his];exact n1) n2 (by omega) (by omega) (growslice_fits (by omega) (by rw [hib];exact k3.2))
        have hrun:=ey _ _ _ _ _ _ (Nat.le_refl _) hrun;rw [← ex]at hrun;exact iL (id:=site o) (o:=o) (g:=g) (h:=q.2.1) (olds:=[]) hT hw he (hw.none_place (iq hn.2)) (by simp) n1 (iZ w _ _ _) (iV w _ _ _ (by omega)) (by simp [dZ,hzs])
         (fun i hi=>by omega) n5 (exec _ _ hrun)
      obtain rfl:=g4 rfl;have hs63:=hbig _ k3.2
      have hrun:=run_append_grow (P:=P) w t o.type u i z (hT.sli hk).1 hi hz ⟨bb,off,none⟩ cap cap ((List.range cap).flatMap segs) (by rw [his];exact dK segs g7) (fun j v hv=>by
       have hj:j<cap*(T u).size:=by rw [← dK segs g7];exact (List.getElem?_eq_some_iff.1 hv).1
       rw [iC segs hpos g7 hj]at hv;rw [fA];have hk:=g8 (j / (T u).size) (div_lt hpos hj) (j % (T u).size) (Nat.mod_lt _ hpos)
       rw [hv,show j / (T u).size*(T u).size+j % (T u).size=j from by rw [Nat.mul_comm];exact Nat.div_add_mod j _]at hk;exact hw.imm _ _ _ hk) ad q.1 mc news (by rw [his];exact n1) n2 (by omega) (by omega) (growslice_fits (by omega) (by rw [hib];exact k3.2))
      have hrun:=ey _ _ _ _ _ _ (Nat.le_refl _) hrun;rw [← ex]at hrun;exact iL (id:=site o) (o:=o) (g:=g) (h:=q.2.1) hT hw he (hw.none_place (iq hn.2)) (dK segs g7) n1 (iZ w _ _ _) (iV w _ _ _ (by omega)) (by simp [dZ,hzs])
       (fun i hi=>⟨segs i,(g5 i hi).mono (iQ.refl _) (yC _),g6 i hi,g7 i hi,fun o ho=>dW segs g7 hi ho⟩) n5 (exec _ _ hrun)
    ·
      rename_i id n len hbx;split at h
      ·rename_i B hm;obtain ⟨hn,h⟩:=ak (b:=Nat.beq B.ty e) h;cases h;have eu:=Nat.eq_of_beq_eq_true hn
       subst eu;rw [aB,aB,aB]at hc;obtain ⟨k1,k2,knn,k3⟩:=hc;simp only [aj]at k3;obtain ⟨en,el,k3⟩:=k3;subst el en;have hrx:=aI hs hG h1 k1
       rw [hbx]at hrx;obtain ⟨ad,mc,news,ey,n1,n2,n3,n4,n5⟩:=qN hT hw hpos ((aI hs hG h2 k2).rep1 (by
        intro vs hvs;rw [hvs]at hq;cases hq)) hq knn (hT.sli hk).1 hi o.type
       have hs63:=hbig _ k3.2;rcases Rep.own_inv (hrx.rep1 (fun _=>by simp))with ⟨ex,hB0,_,_⟩ | ⟨p,hp,hn',hx⟩
       ·have hk0:0<q.1:=by omega
        refine vO (ty:=o.type) (mc:=mc) (a:=ad) (news:=news) hT hw hm hB0 he (hT.sli hk).1 hi hz his hzs n1 n2 hk0 (by omega) (by rw [hib];have:=k3.2;rw [hB0,Nat.zero_add]at this;exact this) n5 (fun v w' hr=>?_);have hr:=ey _ _ _ _ _ _ (Nat.le_refl _) hr
        rw [← ex]at hr;exact exec _ _ hr
       obtain ⟨p',cs,c1,c2,c3,c4,c5,c6,_⟩:=hw.cellsAt hm hp;rw [hp]at c1;cases c1;obtain ⟨cc,ex,g1,g2,g3,g4,g5,g6⟩:=hx c3;simp only [Nat.zero_mul]at ex;refine wB (ty:=o.type) (mc:=mc) (a:=ad) (news:=news) hT hw hm hp (hT.sli hk).1 hi hz his hzs g1 g2 (by have:=g5 rfl;rw [c2,Nat.zero_add]at this;exact this) n1 n2 n3 (by omega) (by rw [hib];exact k3.2) hpos n5 (fun v w' hr=>?_);have hr:=ey _ _ _ _ _ _ g1 hr
       rw [← ex]at hr;exact exec _ _ hr
      ·cases h
    ·cases h
   ·cases h
  ·cases h
end
end Go.Ab
