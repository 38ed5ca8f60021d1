/- Part 8 of a proof of a statement about the given program: an abstract machine over the model, proved sound, and contracts of the functions that the statement reaches; the last part proves the statement, for every input, with no condition. -/
import Derived.Test.YtcfelhfcjdofoaaGreatDoorX6
set_option autoImplicit false
set_option linter.unusedSimpArgs false
set_option linter.unusedVariables false
namespace Go.Ab
section
variable {P:Program} {T:Nat→TI} {N:Nat}
theorem sV (hT:TOK P T N) {t:Nat} (hk:(T t).kind = .str):∀ w,(underlying t).run P w = .ok .string w:=by
 obtain ⟨d,hd,_,h2⟩:=hT.runUnd (hT.lt (t:=t) (by rw [hk];simp));rw [hk]at h2;cases d <;> simp only [kindOf,reduceCtorEq]at h2
 exact hd
theorem kind_int (hT:TOK P T N) {t:Nat} {k:IntKind} (hk:(T t).kind = .int k):∀ w,(underlying t).run P w = .ok (.int k) w:=by
 obtain ⟨d,hd,_,h2⟩:=hT.runUnd (hT.lt (t:=t) (by rw [hk];simp));rw [hk]at h2;cases d <;> simp only [kindOf,reduceCtorEq,TK.int.injEq]at h2
 subst h2;exact hd
theorem F8 (hT:TOK P T N) {I:Imm} {ρ:Pl} {m:Id→Option Ob} {w:World} (hw:dR T N I ρ m w) {x:AV} {y:Value} {t:Nat} {r:AV×List Id} {ty:TypeId} (hx:dI T N I ρ x y) (h:F9 T m t x=some r) (hnn:aj (nOf m x)) :
 ∃ u,(Builtin.len_ #[t] ty #[y]).run P w = .ok u w∧gI T N I ρ r.1 u:=by
 unfold F9 at h;split at h
 ·rename_i e _ _ n _ hk;cases h;rcases Rep.row_inv hx with ⟨⟨_,rfl⟩,rfl,_⟩ | ⟨b,off,cap,segs,_,_,_,_,_,_,_,_,rfl⟩ <;>
  exact ⟨_,by simp [Builtin.len_,(hT.sli hk).2,goInt],cZ rfl⟩
 ·rename_i e id n _ len _ hk;split at h
  ·rename_i B hm
   ·cases h;have e1:B.n=n:=by simpa [nOf,nC,hm,aj]using hnn
    rcases Rep.own_inv hx with ⟨rfl,rfl,rfl,rfl⟩ | ⟨q,hq,hn,hx⟩
    ·exact ⟨_,by simp [Builtin.len_,(hT.sli hk).2,goInt],cZ rfl⟩
    obtain ⟨q',cs,c1,c2,c3,c4,_⟩:=hw.cellsAt hm hq;rw [hq]at c1;cases c1;obtain ⟨c,rfl,_⟩:=hx (by rw [c3,e1]);exact ⟨_,by simp [Builtin.len_,(hT.sli hk).2,goInt],cZ rfl⟩
  ·cases h
 ·rename_i e id n _ _ _ len _ hk;split at h
  ·rename_i B hm
   ·cases h;have e1:B.n=n:=by simpa [nOf,nC,hm,aj]using hnn
    obtain ⟨q,hq,hn,hx⟩:=Rep.arr_inv hx;obtain ⟨q',cs,c1,c2,c3,c4,_⟩:=hw.cellsAt hm hq;rw [hq]at c1;cases c1;obtain ⟨_,_,_,_,_,_,_,_,_,_,rfl⟩:=hx (by rw [c3,e1]);exact ⟨_,by simp [Builtin.len_,(hT.sli hk).2,goInt],cZ rfl⟩
  ·cases h
 ·rename_i hk;cases h;obtain ⟨rfl,_⟩:=dI.v hx;exact ⟨_,by simp [Builtin.len_,(hT.sli hk).2,goInt],cZ rfl⟩
 ·rename_i s hk;cases h;obtain ⟨rfl,_⟩:=dI.v hx;exact ⟨_,by simp [Builtin.len_,sV hT hk,goInt],cZ rfl⟩
 ·cases h
theorem bg {s:Sem Value} {w:World} {u:Value} (h:s.run P w = .ok u w):(do pure (Next.value (← s)):Sem Next).run P w = .ok (.value u) w:=by simp [h]
theorem uV {m:Id→Option Ob} {t:Nat} {x:AV} {r:AV×List Id} (h:ldA T m t x=some r):∀ vs,x ≠ .tup vs:=by rintro vs rfl;cases h
theorem wz {m:Id→Option Ob} {t k:Nat} {x:AV} {r:AV×List Id} (h:vJ T t k m x=some r):∀ vs,x ≠ .tup vs:=by rintro vs rfl;cases h
theorem Au {m:Id→Option Ob} {t:Nat} {j:Int} {x:AV} {r:AV×List Id×Prop} (h:OG T t j m x=some r):∀ vs,x ≠ .tup vs:=by rintro vs rfl;cases h
theorem Ak {m:Id→Option Ob} {t:Nat} {x:AV} {r:AV×List Id} (h:F9 T m t x=some r):∀ vs,x ≠ .tup vs:=by
 rintro vs rfl;unfold F9 at h;cases (T t).kind <;> simp at h
theorem Ii {I:Imm} {ρ:Pl} {x:AV} {y:Value} (h:dI T N I ρ x y) (hx:∀ t n g,x ≠ .agg t n g):Rep T N I ρ x [y]∧y.oneCell'=true:=by
 obtain ⟨cs,h1,h2⟩:=h;obtain ⟨z,rfl,hz⟩:=h1.one hx;have hp:bZ x [z]=z:=by
  unfold bZ;split
  ·exact absurd rfl (hx _ _ _)
  ·rfl
 rw [hp]at h2;subst h2;exact ⟨h1,hz⟩
set_option maxHeartbeats 1000000 in
theorem Ji (hT:TOK P T N) (hE:xH P T N) {en:Entry} {I:Imm} {ρ:Pl} {st:St} {a:Act} {w:World} (hs:dU T N en I ρ st a w) {G:D} (hG:G.tr) {o:Oper} {r:AV×List Id×Option Prop}
 (h:evR T st G o=some r) (hc:aj r.2.2):∃ u,(execOp a.eval o).run P w = .ok (.value u) w∧gI T N I ρ r.1 u:=by
 have hw:=hs.wr;unfold evR at h;unfold execOp;cases hop:o.op <;> rw [hop]at h <;> try (cases h;done)
 case move x =>
  simp only [Option.bind_eq_some_iff,Option.some.injEq]at h;obtain ⟨b,h1,rfl⟩:=h;exact ⟨_,rfl,aI hs hG h1 hc⟩
 case assign x =>
  simp only [Option.bind_eq_some_iff,Option.some.injEq]at h;obtain ⟨b,h1,rfl⟩:=h;exact ⟨_,rfl,aI hs hG h1 hc⟩
 case pick c x y =>
  simp only [Option.bind_eq_some_iff]at h;obtain ⟨⟨bc,cc⟩,h1,⟨da,xa⟩,h2,⟨db,xb⟩,h3,h4⟩:=h;split at h4
  ·rename_i c' cc' da' xx db' yy e1 e2 e3;cases e1;cases e2;cases e3;cases h4;rw [aB,aB]at hc;obtain ⟨k1,k2,k3⟩:=hc;obtain ⟨e,_⟩:=(aI hs hG h1 k1).v;cases c' with
   | true =>
    have hd:da.tr:=by
     cases da with
     | always=>trivial
     | when g=>exact jg hG k2 rfl
    obtain ⟨e',_⟩:=(rY hs h2 hd).v;exact ⟨_,by simp [e,asBool,e'],cZ rfl⟩
   | false =>
    have hd:db.tr:=by
     cases db with
     | always=>trivial
     | when g=>exact jg hG k3 rfl
    obtain ⟨e',_⟩:=(rY hs h3 hd).v;exact ⟨_,by simp [e,asBool,e'],cZ rfl⟩
  ·cases h4
 case load t x =>
  simp only [Option.bind_eq_some_iff,Option.some.injEq]at h;obtain ⟨b,h1,r',h2,rfl⟩:=h;rw [aB]at hc;obtain ⟨u,h3,h4⟩:=Aq hT hw ((aI hs hG h1 hc.1).rep1 (uV h2)) h2 hc.2;exact ⟨u,bg h3,h4⟩
 case nilCheck x =>
  simp only [Option.bind_eq_some_iff]at h;obtain ⟨b,h1,h2⟩:=h;split at h2
  ·rename_i id n i p hb;split at h2
   ·rename_i B hm
    ·cases h2;rw [aB]at hc;have hr:=aI hs hG h1 hc.1
     rw [hb]at hr;have e1:B.n=n:=hc.2
     have hr1:=hr.rep1 (fun _=>by simp);obtain ⟨q,hq,hn,hx⟩:=Rep.ptr_inv hr1;obtain ⟨q',cs,c1,c2,c3,c4,_⟩:=hw.cellsAt hm hq;rw [hq]at c1;cases c1;obtain ⟨_,_,hy⟩:=hx (by rw [c3,e1]);refine ⟨a.eval x,?_,hr⟩;simp only [hy];rfl
   ·cases h2
  ·rename_i t x' hb;cases h2;have hr:=aI hs hG h1 hc
   rw [hb]at hr;obtain ⟨b',off,seg,_,_,_,_,_,hy⟩:=Rep.rp_inv (hr.rep1 (fun _=>by simp));refine ⟨a.eval x,?_,hr⟩;simp only [hy];rfl
  ·rename_i f l hb;cases h2;have hr:=aI hs hG h1 hc
   rw [hb]at hr;obtain ⟨cs,g1,g2⟩:=hr.rep1 (fun _=>by simp);cases g1 with
   | clo ys hl hh =>
    refine ⟨a.eval x,?_,hr⟩;simp only [g2,bZ,List.headD_cons];rfl
  ·cases h2
 case fieldAddr t x k =>
  simp only [Option.bind_eq_some_iff,Option.some.injEq]at h;obtain ⟨b,h1,r',h2,rfl⟩:=h;rw [aB]at hc;obtain ⟨u,h3,h4⟩:=AY hT hw ((aI hs hG h1 hc.1).rep1 (wz h2)) h2 hc.2;exact ⟨u,bg h3,h4⟩
 case indexAddr t x i =>
  simp only [Option.bind_eq_some_iff]at h;obtain ⟨b,h1,bi,h2,h3⟩:=h;split at h3
  ·rename_i k j hbi;simp only [Option.bind_eq_some_iff,Option.some.injEq]at h3;obtain ⟨r',h4,rfl⟩:=h3;rw [aB,aB,aB]at hc;have hri:=aI hs hG h2 hc.2.1
   rw [hbi]at hri;obtain ⟨e,_⟩:=hri.v;obtain ⟨u,h5,h6⟩:=Gg (k:=k) hT hw ((aI hs hG h1 hc.1).rep1 (Au h4)) h4 (jg hG hc.2.2.2) hc.2.2.1;exact ⟨u,by simp only [e];exact bg h5,h6⟩
  ·cases h3
 case field t x k =>
  simp only [Option.bind_eq_some_iff]at h;obtain ⟨b,h1,h2⟩:=h;split at h2
  ·rename_i u n g fs hb hk;cases hbb:(Nat.beq u t&&Nat.blt k fs.length)with
   | false=>rw [hbb]at h2;cases h2
   | true =>
    rw [hbb]at h2;cases h2;simp only [Bool.and_eq_true]at hbb;have e1:=Nat.eq_of_beq_eq_true hbb.1
    subst e1;have hkl:k<fs.length:=by simpa [Nat.blt_eq]using hbb.2
    have hr:=aI hs hG h1 hc;rw [hb]at hr;obtain ⟨cs,g1,g2,g3,g4⟩:=dI.agg_inv (hr.rep1 (fun _=>by simp));obtain ⟨flds,fl,f1,f2,f3,f4,f5,f6⟩:=hT.field hk (List.getElem?_eq_getElem hkl);have hfit:fit T u (.agg u n g)=true:=by simp [fit,g3]
    obtain ⟨seg,s1,s2,s3,s4⟩:=g1.at [k] hfit (Rep.agg_len hT g1) (u:=fs[k]) (by simp [aJ,hk,List.getElem?_eq_getElem hkl]) (by simp [pathIn,hk,List.getElem?_eq_getElem hkl]);simp only [AV.at]at s1 s2;have hpo:aF T u [k]=lK T fs k:=by simp [aF,hk,List.getElem?_eq_getElem hkl]
    have hrun:=fO hT f6 s1 s2 s3 (cs:=cs.toArray) (off:=fl.offset) (w:=w) (fun o ho=>by
     have:=s4 o ho;rw [hpo,← f5]at this;simpa using this)
    refine ⟨_,?_,.one s1.pack⟩;refine bg ?_;simp [Instr.field,f2,f3,g2,asAgg,f4,hrun]
  ·cases h2
 case index t x i =>
  simp only [Option.bind_eq_some_iff]at h;obtain ⟨b,h1,bi,h2,h3⟩:=h;split at h3
  ·rename_i u n g k j len e hb hbi hk;cases hbb:Nat.beq u t with
   | false=>rw [hbb]at h3;cases h3
   | true =>
    rw [hbb]at h3;cases h3;have e1:=Nat.eq_of_beq_eq_true hbb
    subst e1;rw [aB,aB]at hc;have hri:=aI hs hG h2 hc.2.1
    rw [hbi]at hri;obtain ⟨ei,_⟩:=hri.v;have hr:=aI hs hG h1 hc.1
    rw [hb]at hr;have hj:=jg hG hc.2.2
    have hjl:j.toNat<len:=by omega
    obtain ⟨cs,g1,g2,g3,g4⟩:=dI.agg_inv (hr.rep1 (fun _=>by simp));have hfit:fit T u (.agg u n g)=true:=by simp [fit,g3]
    obtain ⟨seg,s1,s2,s3,s4⟩:=g1.at [j.toNat] hfit (Rep.agg_len hT g1) (u:=e) (by simp [aJ,hk]) (by simp [pathIn,hk,hjl]);simp only [AV.at]at s1 s2;have hpo:aF T u [j.toNat]=j.toNat*(T e).size:=by simp [aF,hk]
    have hrun:=fO hT (hT.array u len e hk).1 s1 s2 s3 (cs:=cs.toArray) (off:=j.toNat*(T e).size) (w:=w) (fun o ho=>by
     have:=s4 o ho;rw [hpo]at this;simpa using this)
    refine ⟨_,?_,.one s1.pack⟩;refine bg ?_;simp only [ei,g2];simp [Instr.index,asIntOf,hT.arr hk,hj,hT.runSize (hT.array u len e hk).1,hrun]
  ·rename_i s k j hb hbi hk;cases h3;rw [aB,aB]at hc;have hri:=aI hs hG h2 hc.2.1
   rw [hbi]at hri;obtain ⟨ei,_⟩:=hri.v;have hr:=aI hs hG h1 hc.1
   rw [hb]at hr;obtain ⟨er,_⟩:=hr.v;have hj:=jg hG hc.2.2
   have hjl:j.toNat<s.size:=by omega
   refine ⟨_,?_,cZ rfl⟩;refine bg ?_;simp only [ei,er];simp [Instr.index,asIntOf,hT.strU hk,hj,byteAt,getElem?_pos s j.toNat hjl]
  ·cases h3
 case build t ps =>
  simp only [Option.bind_eq_some_iff]at h;obtain ⟨l,h1,h2⟩:=h;cases hbb:(fit T t (T t).zero&&oL (T t).zero&&(T t).kind.isAgg&&rH T t ((ps.toList.map (·.1)).zip l.1))with
  | false=>rw [hbb]at h2;cases h2
  | true =>
   rw [hbb]at h2;cases h2;simp only [Bool.and_eq_true]at hbb;obtain ⟨⟨⟨b1,b2⟩,b3⟩,b4⟩:=hbb;obtain ⟨hl,hreps⟩:=lC hs hG h1 hc;simp only [List.length_map]at hl;obtain ⟨cells,c1,c2⟩:=JG (I:=I) (ρ:=ρ) hT b2 b1 b3 (vs:=ps.toList.map fun x=>a.eval x.2) b4 (by simp [hl]) (fun i p v hp hv=>by
    rw [List.getElem?_zip_eq_some]at hp;obtain ⟨hp1,hp2⟩:=hp;simp only [List.getElem?_map,Option.map_eq_some_iff]at hp1 hv;obtain ⟨q,hq,_⟩:=hp1;obtain ⟨q',hq',rfl⟩:=hv;have hr:=hreps i q'.2 p.2 (by simp [hq']) hp2
    refine hr.rep1 (fun vs e=>?_);have hb4:=b4
    simp only [rH,List.all_eq_true]at hb4;have h7:=hb4 p (List.mem_of_getElem? (i:=i) (by rw [List.getElem?_zip_eq_some];exact ⟨by simp [hq];simp_all,hp2⟩))
    rw [e]at h7;split at h7
    ·split at h7 <;> simp [fit]at h7
    ·simp [fit]at h7
    ·cases h7)
   refine ⟨_,bg (run_build w t _ cells ?_),c2⟩;rw [← c1];congr 1;have:((ps.toList.map (·.1)).zip l.1).map (·.1)=ps.toList.map (·.1):=by
    rw [List.map_fst_zip];simp [hl]
   rw [this];simp only [Array.toList_map];apply List.ext_getElem?;intro i;simp only [List.getElem?_map];cases hq:ps.toList[i]? with
   | none =>
    rw [Option.map_none];symm;rw [List.getElem?_eq_none_iff];rw [List.getElem?_eq_none_iff]at hq;simp;omega
   | some q =>
    symm;rw [Option.map_some,List.getElem?_zip_eq_some];simp [hq]
 case binOp op t x y yt =>
  simp only [Option.bind_eq_some_iff]at h;obtain ⟨b1,h1,b2,h2,h⟩:=h;split at h
  ·rename_i r' hr';simp only [Option.some.injEq]at h;subst h;rw [aB,aB]at hc;have hr1:=aI hs hG h1 hc.1
   have hr2:=aI hs hG h2 hc.2.1;unfold su at hr';split at hr'
   ·rename_i id n i p lo len hi hx1 hy1;split at hr'
    ·rename_i B e hm hk;simp only [Option.bind_eq_some_iff,Option.some.injEq]at hr';obtain ⟨ra,hra,rfl⟩:=hr';rw [hx1]at hr1;rw [hy1]at hr2;obtain ⟨ey,_⟩:=hr2.v;obtain ⟨q,hq,hn,hx⟩:=Rep.arr_inv (hr1.rep1 (fun _=>by simp))
     obtain ⟨q',cs,c1,c2,c3,c4,_⟩:=hw.cellsAt hm hq;rw [hq]at c1;cases c1;have e1:B.n=n:=hc.2.2
     obtain ⟨_,_,_,_,_,_,_,_,_,_,ex⟩:=hx (by rw [c3,e1]);have hu:=(hT.sli hk).2
     have key:∃ z,(do eqGuard op t x y (a.eval x) (a.eval y);binOp op t (a.eval x) (a.eval y):Sem Value).run P w = .ok z w∧gI T N I ρ ra z:=by
      rw [ex,ey];have hg:∀ sp len c,(eqGuard op t x y (.slice sp len c) (.slice none 0 0)).run P w = .ok () w:=fun sp len c=>bP op t x y (by simp) (by simp) w
      rcases jD hra with ⟨rfl,rfl⟩ | ⟨rfl,rfl⟩
      ·refine ⟨_,?_,cZ rfl⟩;simp only [Sem.run_bind,hg,Result.andThen_ok,binOp];rw [bQ hu w (some _) none _ _ 0 0 (.inr rfl)];rfl
      ·refine ⟨_,?_,cZ rfl⟩;simp only [Sem.run_bind,hg,Result.andThen_ok,binOp];rw [bQ hu w (some _) none _ _ 0 0 (.inr rfl)];rfl
     obtain ⟨z,h4,h5⟩:=key;exact ⟨z,bg h4,h5⟩
    ·cases hr'
   ·cases hr'
  ·simp only [Option.bind_eq_some_iff,Option.some.injEq]at h;obtain ⟨r',h3,rfl⟩:=h;rw [aB,aB]at hc;have hc':aj r'.2:=by
    have:=hc.2.2;cases hr:r'.2 with
    | none=>trivial
    | some c=>rw [hr]at this;exact jg hG this
   obtain ⟨z,h4,h5⟩:=Df hT hE (aI hs hG h1 hc.1) (aI hs hG h2 hc.2.1) h3 hc' w x y;exact ⟨z,bg h4,h5⟩
 case unOp op t x =>
  simp only [Option.bind_eq_some_iff]at h;obtain ⟨b,h1,h2⟩:=h;split at h2
  ·rename_i y hb;simp only [Option.bind_eq_some_iff,Option.some.injEq]at h2;obtain ⟨r',h3,rfl⟩:=h2;obtain ⟨z,h4,rfl,h5⟩:=o8 h3;have hr:=aI hs hG h1 hc
   rw [hb]at hr;obtain ⟨e,_⟩:=hr.v;exact ⟨z,bg (by rw [e,h4];rfl),cZ h5⟩
  ·cases h2
 case convert s d x =>
  simp only [Option.bind_eq_some_iff]at h;obtain ⟨b,h1,h2⟩:=h;split at h2
  ·rename_i k n k1 k2 hb hk1 hk2;cases h2;have hr:=aI hs hG h1 hc
   rw [hb]at hr;obtain ⟨e,_⟩:=hr.v;exact ⟨_,bg (by simp [e,convert,kind_int hT hk1,kind_int hT hk2,Conv.intToInt]),cZ rfl⟩
  ·rename_i z hb hk1 hk2;cases h2;have hr:=aI hs hG h1 hc
   rw [hb]at hr;obtain ⟨e,_⟩:=hr.v;exact ⟨_,bg (by simp [e,convert,sV hT hk1,sV hT hk2]),cZ rfl⟩
  ·cases h2
 case extract x i =>
  simp only [Option.bind_eq_some_iff]at h;obtain ⟨b,h1,h2⟩:=h;split at h2
  ·rename_i l hb;simp only [Option.bind_eq_some_iff,Option.some.injEq]at h2;obtain ⟨r',h3,rfl⟩:=h2;have hr:=aI hs hG h1 hc
   rw [hb]at hr;generalize hye:a.eval x=y at hr;cases hr with
   | one hr=>obtain ⟨cs,g1,_⟩:=hr;exact absurd g1 qX
   | tup ys hl hh =>
    have hi:i<ys.size:=by rw [hl];exact (List.getElem?_eq_some_iff.1 h3).1
    refine ⟨ys.getD i undef,bg ?_,.one (hh i r' h3)⟩;simp [hye,Instr.extract,Array.getElem?_eq_getElem hi,Array.getD,hi]
  ·cases h2
 case makeFunc fn fst cs =>
  cases fn <;> try (cases h;done)
  rename_i f;simp only at h;split at h
  ·rename_i hfst;simp only [Option.bind_eq_some_iff]at h;obtain ⟨l,h1,h2⟩:=h;cases hone:l.1.all Om with
   | false=>rw [hone]at h2;cases h2
   | true =>
   rw [hone]at h2;cases h2;obtain ⟨hl,hreps⟩:=lC hs hG h1 hc;refine ⟨.func (.func f) #[] (cs.map a.eval),?_,.one ⟨[_],.clo (cs.map a.eval) (by simp [hl]) (fun i c hi=>?_),rfl⟩⟩
   ·have:fst = #[]:=by apply Array.ext';simpa using hfst
    simp [Instr.makeFunc,this]
   ·have hil:=(List.getElem?_eq_some_iff.1 hi).1;have hic:i<cs.size:=by rw [hl]at hil;simpa using hil
    have h3:=hreps i cs[i] c (by simp [hic]) hi;have h4:Om c=true:=by rw [List.all_eq_true]at hone;exact hone c (List.mem_of_getElem? hi)
    have h5:=Ii (h3.rep1 (by rintro vs rfl;cases h4)) (by rintro t n g rfl;cases h4);simpa [Array.getD,hic]using h5.1
  ·cases h
 case call c =>
  simp only at h;split at h
  ·rename_i x hcal hargs;split at h
   ·rename_i t hty;simp only [Option.bind_eq_some_iff,Option.some.injEq]at h;obtain ⟨b,h1,r',h2,rfl⟩:=h;rw [aB]at hc;obtain ⟨u,h3,h4⟩:=F8 (ty:=o.type) hT hw ((aI hs hG h1 hc.1).rep1 (Ak h2)) h2 hc.2;have ha:c.args = #[x]:=by apply Array.ext';simpa using hargs
    have ht:c.argTypes = #[t]:=by apply Array.ext';simpa using hty
    refine ⟨u,?_,h4⟩;simp [resolve,hcal,invoke,builtin,ha,ht,h3]
   ·cases h
  ·rename_i x y hcal hargs;simp only [Option.bind_eq_some_iff,Option.some.injEq]at h;obtain ⟨b,h1,b',h2,r',h3,rfl⟩:=h;rw [aB]at hc;unfold RI at h3;split at h3
   ·rename_i j p k q e1 e2;cases h3;have g1:=aI hs hG h1 hc.1
    have g2:=aI hs hG h2 hc.2;rw [e1]at g1;rw [e2]at g2;have ha:c.args = #[x,y]:=by apply Array.ext';simpa using hargs
    refine ⟨_,?_,cZ rfl⟩;simp [resolve,hcal,invoke,builtin,ha,Builtin.min_,Builtin.min2,g1.v.1,g2.v.1]
   ·cases h3
  ·rename_i x y hcal hargs;simp only [Option.bind_eq_some_iff,Option.some.injEq]at h;obtain ⟨b,h1,b',h2,r',h3,rfl⟩:=h;rw [aB]at hc;unfold RJ at h3;split at h3
   ·rename_i j p k q e1 e2;cases h3;have g1:=aI hs hG h1 hc.1
    have g2:=aI hs hG h2 hc.2;rw [e1]at g1;rw [e2]at g2;have ha:c.args = #[x,y]:=by apply Array.ext';simpa using hargs
    refine ⟨_,?_,cZ rfl⟩;simp [resolve,hcal,invoke,builtin,ha,Builtin.max_,Builtin.max2,g1.v.1,g2.v.1]
   ·cases h3
  ·cases h
end
end Go.Ab
