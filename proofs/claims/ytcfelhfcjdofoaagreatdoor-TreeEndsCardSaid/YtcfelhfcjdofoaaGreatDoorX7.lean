/- Part 8 of a proof of a statement about the given program: an abstract machine over the model, proved sound, and contracts of the functions that the statement reaches; the last part proves the statement, for every input, with no condition. -/
import Derived.Test.YtcfelhfcjdofoaaGreatDoorX6
set_option autoImplicit false
set_option linter.unusedSimpArgs false
set_option linter.unusedVariables false
namespace Go.Ab
section
variable {P:Program} {T:Nat->TI} {N:Nat}
theorem CX (hT:jf P T N) {t:Nat} (hk:(T t).kind = .str):∀ w,(underlying t).run P w = .ok .string w:=by
 obtain ⟨d,hd,_,a⟩:=hT.runUnd (hT.lt (t:=t) (by rw [hk];simp));rw [hk]at a;cases d <;> simp only [kindOf,reduceCtorEq]at a
 exact hd
theorem kind_int (hT:jf P T N) {t:Nat} {k:IntKind} (hk:(T t).kind = .int k):∀ w,(underlying t).run P w = .ok (.int k) w:=by
 obtain ⟨d,hd,_,a⟩:=hT.runUnd (hT.lt (t:=t) (by rw [hk];simp));rw [hk]at a;cases d <;> simp only [kindOf,reduceCtorEq,TK.int.injEq]at a
 subst a;exact hd
theorem QD (hT:jf P T N) {I:fK} {ρ:Pl} {m:Id->Option Ob} {w:World} (hw:dY T N I ρ m w) {x:AV} {y:Value} {t:Nat} {r:AV×List Id} {ty:TypeId} (hx:dU T N I ρ x y) (h:Ea T m t x=some r) (a:ay (nP m x)) :
 ∃ u,(Builtin.len_ #[t] ty #[y]).run P w = .ok u w/\gB T N I ρ r.1 u:=by
 unfold Ea at h;split at h
 ·rename_i e _ _ n _ hk;cases h;rcases Rep.row_inv hx with ⟨⟨_,rfl⟩,rfl,_⟩ | ⟨b,off,cap,segs,_,_,_,_,_,_,_,_,rfl⟩ <;>
  exact ⟨_,by simp [Builtin.len_,(hT.sli hk).2,goInt],fZ rfl⟩
 ·rename_i e id n _ len _ hk;split at h
  ·rename_i B hm
   ·cases h;have f:B.n=n:=by simpa [nP,nC,hm,ay]using a
    rcases Rep.own_inv hx with ⟨rfl,rfl,rfl,rfl⟩ | ⟨q,d,hn,hx⟩
    ·exact ⟨_,by simp [Builtin.len_,(hT.sli hk).2,goInt],fZ rfl⟩
    obtain ⟨g,cs,c1,c2,c3,c4,_⟩:=hw.cellsAt hm d;rw [d]at c1;cases c1;obtain ⟨c,rfl,_⟩:=hx (by rw [c3,f]);exact ⟨_,by simp [Builtin.len_,(hT.sli hk).2,goInt],fZ rfl⟩
  ·cases h
 ·rename_i e id n _ _ _ len _ hk;split at h
  ·rename_i B hm
   ·cases h;have f:B.n=n:=by simpa [nP,nC,hm,ay]using a
    obtain ⟨q,d,hn,hx⟩:=Rep.arr_inv hx;obtain ⟨g,cs,c1,c2,c3,c4,_⟩:=hw.cellsAt hm d;rw [d]at c1;cases c1;obtain ⟨_,_,_,_,_,_,_,_,_,_,rfl⟩:=hx (by rw [c3,f]);exact ⟨_,by simp [Builtin.len_,(hT.sli hk).2,goInt],fZ rfl⟩
  ·cases h
 ·rename_i hk;cases h;obtain ⟨rfl,_⟩:=dU.v hx;exact ⟨_,by simp [Builtin.len_,(hT.sli hk).2,goInt],fZ rfl⟩
 ·rename_i s hk;cases h;obtain ⟨rfl,_⟩:=dU.v hx;exact ⟨_,by simp [Builtin.len_,CX hT hk,goInt],fZ rfl⟩
 ·cases h
theorem fD {s:Sem Value} {w:World} {u:Value} (h:s.run P w = .ok u w):(do pure (Next.value (<- s)):Sem Next).run P w = .ok (.value u) w:=by simp [h]
theorem EH {m:Id->Option Ob} {t:Nat} {x:AV} {r:AV×List Id} (h:Vd T m t x=some r):∀ vs,x ≠ .tup vs:=by rintro vs rfl;cases h
theorem Iq {m:Id->Option Ob} {t k:Nat} {x:AV} {r:AV×List Id} (h:Bz T t k m x=some r):∀ vs,x ≠ .tup vs:=by rintro vs rfl;cases h
theorem Lu {m:Id->Option Ob} {t:Nat} {j:Int} {x:AV} {r:AV×List Id×Prop} (h:QH T t j m x=some r):∀ vs,x ≠ .tup vs:=by rintro vs rfl;cases h
theorem Ll {m:Id->Option Ob} {t:Nat} {x:AV} {r:AV×List Id} (h:Ea T m t x=some r):∀ vs,x ≠ .tup vs:=by
 rintro vs rfl;unfold Ea at h;cases (T t).kind <;> simp at h
theorem UR {I:fK} {ρ:Pl} {x:AV} {y:Value} (h:dU T N I ρ x y) (hx:∀ t n g,x ≠ .agg t n g):Rep T N I ρ x [y]/\y.oneCell'=true:=by
 obtain ⟨cs,a,b⟩:=h;obtain ⟨z,rfl,c⟩:=a.one hx;have hp:fF x [z]=z:=by unfold fF;split;{exact absurd rfl (hx _ _ _)};rfl
 rw [hp]at b;subst b;exact ⟨a,c⟩
set_option maxHeartbeats 1000000 in
theorem Vt (hT:jf P T N) (hE:wZ P T N) {en:Entry} {I:fK} {ρ:Pl} {st:St} {a:Act} {w:World} (hs:gJ T N en I ρ st a w) {G:D} (hG:G.tr) {o:Oper} {r:AV×List Id×Option Prop}
 (h:evR T st G o=some r) (hc:ay r.2.2):∃ u,(execOp a.eval o).run P w = .ok (.value u) w/\gB T N I ρ r.1 u:=by
 have hw:=hs.wr;unfold evR at h;unfold execOp;cases g6:o.op <;> rw [g6]at h <;> try (cases h;done)
 case move x =>
  simp only [aaC,abf]at h;obtain ⟨b,h1,rfl⟩:=h;exact ⟨_,rfl,bn hs hG h1 hc⟩
 case assign x =>
  simp only [aaC,abf]at h;obtain ⟨b,h1,rfl⟩:=h;exact ⟨_,rfl,bn hs hG h1 hc⟩
 case pick c x y =>
  simp only [aaC]at h;obtain ⟨⟨bc,cc⟩,h1,⟨da,xa⟩,m,⟨db,xb⟩,h3,h4⟩:=h;split at h4
  ·rename_i c' j4 j5 xx j6 yy e1 e2 e3;cases e1;cases e2;cases e3;cases h4;rw [aI,aI]at hc;obtain ⟨k1,k2,k3⟩:=hc;obtain ⟨e,_⟩:=(bn hs hG h1 k1).v;cases c' with
   | true =>
    have hd:da.tr:=by
     cases da with
     | always=>trivial
     | when g=>exact nG hG k2 rfl
    obtain ⟨e',_⟩:=(zu hs m hd).v;exact ⟨_,by simp [e,asBool,e'],fZ rfl⟩
   | false =>
    have hd:db.tr:=by
     cases db with
     | always=>trivial
     | when g=>exact nG hG k3 rfl
    obtain ⟨e',_⟩:=(zu hs h3 hd).v;exact ⟨_,by simp [e,asBool,e'],fZ rfl⟩
  ·cases h4
 case load t x =>
  simp only [aaC,abf]at h;obtain ⟨b,h1,r',m,rfl⟩:=h;rw [aI]at hc;obtain ⟨u,h3,h4⟩:=JR hT hw ((bn hs hG h1 hc.1).rep1 (EH m)) m hc.2;exact ⟨u,fD h3,h4⟩
 case nilCheck x =>
  simp only [aaC]at h;obtain ⟨b,h1,m⟩:=h;split at m
  ·rename_i id n i p hb;split at m
   ·rename_i B hm
    ·cases m;rw [aI]at hc;have hr:=bn hs hG h1 hc.1
     rw [hb]at hr;have e1:B.n=n:=hc.2
     have d0:=hr.rep1 (λ_=>by simp);obtain ⟨q,hq,hn,hx⟩:=Rep.ptr_inv d0;obtain ⟨q',cs,c1,c2,c3,c4,_⟩:=hw.cellsAt hm hq;rw [hq]at c1;cases c1;obtain ⟨_,_,hy⟩:=hx (by rw [c3,e1]);refine ⟨a.eval x,?_,hr⟩;simp only [hy];rfl
   ·cases m
  ·rename_i t x' hb;cases m;have hr:=bn hs hG h1 hc
   rw [hb]at hr;obtain ⟨b',off,seg,_,_,_,_,_,hy⟩:=Rep.rp_inv (hr.rep1 (λ_=>by simp));refine ⟨a.eval x,?_,hr⟩;simp only [hy];rfl
  ·rename_i f l hb;cases m;have hr:=bn hs hG h1 hc
   rw [hb]at hr;obtain ⟨cs,g1,g2⟩:=hr.rep1 (λ_=>by simp);cases g1 with
   | clo ys hl hh =>
    refine ⟨a.eval x,?_,hr⟩;simp only [g2,fF,List.headD_cons];rfl
  ·cases m
 case fieldAddr t x k =>
  simp only [aaC,abf]at h;obtain ⟨b,h1,r',m,rfl⟩:=h;rw [aI]at hc;obtain ⟨u,h3,h4⟩:=LK hT hw ((bn hs hG h1 hc.1).rep1 (Iq m)) m hc.2;exact ⟨u,fD h3,h4⟩
 case indexAddr t x i =>
  simp only [aaC]at h;obtain ⟨b,h1,bi,m,h3⟩:=h;split at h3
  ·rename_i k j c0;simp only [aaC,abf]at h3;obtain ⟨r',h4,rfl⟩:=h3;rw [aI,aI,aI]at hc;have a9:=bn hs hG m hc.2.1
   rw [c0]at a9;obtain ⟨e,_⟩:=a9.v;obtain ⟨u,h5,h6⟩:=QG (k:=k) hT hw ((bn hs hG h1 hc.1).rep1 (Lu h4)) h4 (nG hG hc.2.2.2) hc.2.2.1;exact ⟨u,by simp only [e];exact fD h5,h6⟩
  ·cases h3
 case field t x k =>
  simp only [aaC]at h;obtain ⟨b,h1,m⟩:=h;split at m
  ·rename_i u n g fs hb hk;cases a5:(Nat.beq u t&&Nat.blt k fs.length)with
   | false=>rw [a5]at m;cases m
   | true =>
    rw [a5]at m;cases m;simp only [abe]at a5;have e1:=abJ a5.1
    subst e1;have c9:k<fs.length:=by simpa [adV]using a5.2
    have hr:=bn hs hG h1 hc;rw [hb]at hr;obtain ⟨cs,g1,g2,g3,g4⟩:=dU.agg_inv (hr.rep1 (λ_=>by simp));obtain ⟨flds,fl,f1,f2,f3,f4,f5,f6⟩:=hT.field hk (aaR c9);have c5:fit T u (.agg u n g)=true:=by simp [fit,g3]
    obtain ⟨seg,s1,s2,s3,s4⟩:=g1.at [k] c5 (Rep.agg_len hT g1) (u:=fs[k]) (by simp [aY,hk,aaR c9]) (by simp [pathIn,hk,aaR c9]);simp only [AV.at]at s1 s2;have d4:aG T u [k]=lU T fs k:=by simp [aG,hk,aaR c9]
    have c6:=kS hT f6 s1 s2 s3 (cs:=cs.toArray) (off:=fl.offset) (w:=w) (λo ho=>by
     have:=s4 o ho;rw [d4,<- f5]at this;simpa using this)
    refine ⟨_,?_,.one s1.pack⟩;refine fD ?_;simp [Instr.field,f2,f3,g2,asAgg,f4,c6]
  ·cases m
 case index t x i =>
  simp only [aaC]at h;obtain ⟨b,h1,bi,m,h3⟩:=h;split at h3
  ·rename_i u n g k j len e hb c0 hk;cases a5:Nat.beq u t with
   | false=>rw [a5]at h3;cases h3
   | true =>
    rw [a5]at h3;cases h3;have e1:=abJ a5
    subst e1;rw [aI,aI]at hc;have a9:=bn hs hG m hc.2.1
    rw [c0]at a9;obtain ⟨ei,_⟩:=a9.v;have hr:=bn hs hG h1 hc.1
    rw [hb]at hr;have hj:=nG hG hc.2.2
    have d1:j.toNat<len:=by omega
    obtain ⟨cs,g1,g2,g3,g4⟩:=dU.agg_inv (hr.rep1 (λ_=>by simp));have c5:fit T u (.agg u n g)=true:=by simp [fit,g3]
    obtain ⟨seg,s1,s2,s3,s4⟩:=g1.at [j.toNat] c5 (Rep.agg_len hT g1) (u:=e) (by simp [aY,hk]) (by simp [pathIn,hk,d1]);simp only [AV.at]at s1 s2;have d4:aG T u [j.toNat]=j.toNat*(T e).size:=by simp [aG,hk]
    have c6:=kS hT (hT.array u len e hk).1 s1 s2 s3 (cs:=cs.toArray) (off:=j.toNat*(T e).size) (w:=w) (λo ho=>by
     have:=s4 o ho;rw [d4]at this;simpa using this)
    refine ⟨_,?_,.one s1.pack⟩;refine fD ?_;simp only [ei,g2];simp [Instr.index,asIntOf,hT.arr hk,hj,hT.runSize (hT.array u len e hk).1,c6]
  ·rename_i s k j hb c0 hk;cases h3;rw [aI,aI]at hc;have a9:=bn hs hG m hc.2.1
   rw [c0]at a9;obtain ⟨ei,_⟩:=a9.v;have hr:=bn hs hG h1 hc.1
   rw [hb]at hr;obtain ⟨er,_⟩:=hr.v;have hj:=nG hG hc.2.2
   have d1:j.toNat<s.size:=by omega
   refine ⟨_,?_,fZ rfl⟩;refine fD ?_;simp only [ei,er];simp [Instr.index,asIntOf,hT.strU hk,hj,byteAt,getElem?_pos s j.toNat d1]
  ·cases h3
 case build t ps =>
  simp only [aaC]at h;obtain ⟨l,h1,m⟩:=h;cases a5:(fit T t (T t).zero&&rV (T t).zero&&(T t).kind.isAgg&&zW T t ((ps.toList.map (·.1)).zip l.1))with
  | false=>rw [a5]at m;cases m
  | true =>
   rw [a5]at m;cases m;simp only [abe]at a5;obtain ⟨⟨⟨b1,b2⟩,b3⟩,b4⟩:=a5;obtain ⟨hl,b5⟩:=tq hs hG h1 hc;simp only [adF]at hl;obtain ⟨cells,c1,c2⟩:=VF (I:=I) (ρ:=ρ) hT b2 b1 b3 (vs:=ps.toList.map λx=>a.eval x.2) b4 (by simp [hl]) (λi p v hp hv=>by
    rw [aem]at hp;obtain ⟨e6,e7⟩:=hp;simp only [ady,ade]at e6 hv;obtain ⟨q,hq,_⟩:=e6;obtain ⟨q',g7,rfl⟩:=hv;have hr:=b5 i q'.2 p.2 (by simp [g7]) e7
    refine hr.rep1 (λvs e=>?_);have d9:=b4
    simp only [zW,adp]at d9;have h7:=d9 p (ac8 (i:=i) (by rw [aem];exact ⟨by simp [hq];simp_all,e7⟩))
    rw [e]at h7;split at h7
    ·split at h7 <;> simp [fit]at h7
    ·simp [fit]at h7
    ·cases h7)
   refine ⟨_,fD (run_build w t _ cells ?_),c2⟩;rw [<- c1];congr 1;have:((ps.toList.map (·.1)).zip l.1).map (·.1)=ps.toList.map (·.1):=by
    rw [List.map_fst_zip];simp [hl]
   rw [this];simp only [aev];apply List.ext_getElem?;intro i;simp only [ady];cases hq:ps.toList[i]? with
   | none =>
    rw [Option.map_none];symm;rw [List.getElem?_eq_none_iff];rw [List.getElem?_eq_none_iff]at hq;simp;omega
   | some q =>
    symm;rw [adU,aem];simp [hq]
 case binOp op t x y yt =>
  simp only [aaC]at h;obtain ⟨b1,h1,b2,m,h⟩:=h;split at h
  ·rename_i r' b0;simp only [abf]at h;subst h;rw [aI,aI]at hc;have d0:=bn hs hG h1 hc.1
   have e8:=bn hs hG m hc.2.1;unfold zD at b0;split at b0
   ·rename_i id n i p lo len hi hx1 h8;split at b0
    ·rename_i B e hm hk;simp only [aaC,abf]at b0;obtain ⟨ra,g8,rfl⟩:=b0;rw [hx1]at d0;rw [h8]at e8;obtain ⟨ey,_⟩:=e8.v;obtain ⟨q,hq,hn,hx⟩:=Rep.arr_inv (d0.rep1 (λ_=>by simp))
     obtain ⟨q',cs,c1,c2,c3,c4,_⟩:=hw.cellsAt hm hq;rw [hq]at c1;cases c1;have e1:B.n=n:=hc.2.2
     obtain ⟨_,_,_,_,_,_,_,_,_,_,ex⟩:=hx (by rw [c3,e1]);have hu:=(hT.sli hk).2
     have key:∃ z,(do eqGuard op t x y (a.eval x) (a.eval y);binOp op t (a.eval x) (a.eval y):Sem Value).run P w = .ok z w/\gB T N I ρ ra z:=by
      rw [ex,ey];have hg:∀ sp len c,(eqGuard op t x y (.slice sp len c) (.slice none 0 0)).run P w = .ok () w:=λsp len c=>gU op t x y (by simp) (by simp) w
      rcases pW g8 with ⟨rfl,rfl⟩ | ⟨rfl,rfl⟩
      ·refine ⟨_,?_,fZ rfl⟩;simp only [Sem.run_bind,hg,Result.andThen_ok,binOp];rw [gY hu w (some _) none _ _ 0 0 (.inr rfl)];rfl
      ·refine ⟨_,?_,fZ rfl⟩;simp only [Sem.run_bind,hg,Result.andThen_ok,binOp];rw [gY hu w (some _) none _ _ 0 0 (.inr rfl)];rfl
     obtain ⟨z,h4,h5⟩:=key;exact ⟨z,fD h4,h5⟩
    ·cases b0
   ·cases b0
  ·simp only [aaC,abf]at h;obtain ⟨r',h3,rfl⟩:=h;rw [aI,aI]at hc;have f9:ay r'.2:=by
    have:=hc.2.2;cases hr:r'.2 with
    | none=>trivial
    | some c=>rw [hr]at this;exact nG hG this
   obtain ⟨z,h4,h5⟩:=OY hT hE (bn hs hG h1 hc.1) (bn hs hG m hc.2.1) h3 f9 w x y;exact ⟨z,fD h4,h5⟩
 case unOp op t x =>
  simp only [aaC]at h;obtain ⟨b,h1,m⟩:=h;split at m
  ·rename_i y hb;simp only [aaC,abf]at m;obtain ⟨r',h3,rfl⟩:=m;obtain ⟨z,h4,rfl,h5⟩:=zf h3;have hr:=bn hs hG h1 hc
   rw [hb]at hr;obtain ⟨e,_⟩:=hr.v;exact ⟨z,fD (by rw [e,h4];rfl),fZ h5⟩
  ·cases m
 case convert s d x =>
  simp only [aaC]at h;obtain ⟨b,h1,m⟩:=h;split at m
  ·rename_i k n k1 k2 hb d2 d3;cases m;have hr:=bn hs hG h1 hc
   rw [hb]at hr;obtain ⟨e,_⟩:=hr.v;exact ⟨_,fD (by simp [e,convert,kind_int hT d2,kind_int hT d3,Conv.intToInt]),fZ rfl⟩
  ·rename_i z hb d2 d3;cases m;have hr:=bn hs hG h1 hc
   rw [hb]at hr;obtain ⟨e,_⟩:=hr.v;exact ⟨_,fD (by simp [e,convert,CX hT d2,CX hT d3]),fZ rfl⟩
  ·cases m
 case extract x i =>
  simp only [aaC]at h;obtain ⟨b,h1,m⟩:=h;split at m
  ·rename_i l hb;simp only [aaC,abf]at m;obtain ⟨r',h3,rfl⟩:=m;have hr:=bn hs hG h1 hc
   rw [hb]at hr;generalize h9:a.eval x=y at hr;cases hr with
   | one hr=>obtain ⟨cs,g1,_⟩:=hr;exact absurd g1 AZ
   | tup ys hl hh =>
    have hi:i<ys.size:=by rw [hl];exact (List.getElem?_eq_some_iff.1 h3).1
    refine ⟨ys.getD i undef,fD ?_,.one (hh i r' h3)⟩;simp [h9,Instr.extract,Array.getElem?_eq_getElem hi,Array.getD,hi]
  ·cases m
 case makeFunc fn fst cs =>
  cases fn <;> try (cases h;done)
  rename_i f;simp only at h;split at h
  ·rename_i e0;simp only [aaC]at h;obtain ⟨l,h1,m⟩:=h;cases b6:l.1.all Qr with
   | false=>rw [b6]at m;cases m
   | true =>
   rw [b6]at m;cases m;obtain ⟨hl,b5⟩:=tq hs hG h1 hc;refine ⟨.func (.func f) #[] (cs.map a.eval),?_,.one ⟨[_],.clo (cs.map a.eval) (by simp [hl]) (λi c hi=>?_),rfl⟩⟩
   ·have:fst = #[]:=by apply ad4;simpa using e0
    simp [Instr.makeFunc,this]
   ·have e5:=(List.getElem?_eq_some_iff.1 hi).1;have e4:i<cs.size:=by rw [hl]at e5;simpa using e5
    have h3:=b5 i cs[i] c (by simp [e4]) hi;have h4:Qr c=true:=by rw [adp]at b6;exact b6 c (ac8 hi)
    have h5:=UR (h3.rep1 (by rintro vs rfl;cases h4)) (by rintro t n g rfl;cases h4);simpa [Array.getD,e4]using h5.1
  ·cases h
 case call c =>
  simp only at h;split at h
  ·rename_i x a8 a6;split at h
   ·rename_i t g9;simp only [aaC,abf]at h;obtain ⟨b,h1,r',m,rfl⟩:=h;rw [aI]at hc;obtain ⟨u,h3,h4⟩:=QD (ty:=o.type) hT hw ((bn hs hG h1 hc.1).rep1 (Ll m)) m hc.2;have ha:c.args = #[x]:=by apply ad4;simpa using a6
    have ht:c.argTypes = #[t]:=by apply ad4;simpa using g9
    refine ⟨u,?_,h4⟩;simp [resolve,a8,invoke,builtin,ha,ht,h3]
   ·cases h
  ·rename_i x y a8 a6;simp only [aaC,abf]at h;obtain ⟨b,h1,b',m,r',h3,rfl⟩:=h;rw [aI]at hc;unfold acB at h3;split at h3
   ·rename_i j p k q e1 e2;cases h3;have g1:=bn hs hG h1 hc.1
    have g2:=bn hs hG m hc.2;rw [e1]at g1;rw [e2]at g2;have ha:c.args = #[x,y]:=by apply ad4;simpa using a6
    refine ⟨_,?_,fZ rfl⟩;simp [resolve,a8,invoke,builtin,ha,Builtin.min_,Builtin.min2,g1.v.1,g2.v.1]
   ·cases h3
  ·rename_i x y a8 a6;simp only [aaC,abf]at h;obtain ⟨b,h1,b',m,r',h3,rfl⟩:=h;rw [aI]at hc;unfold acC at h3;split at h3
   ·rename_i j p k q e1 e2;cases h3;have g1:=bn hs hG h1 hc.1
    have g2:=bn hs hG m hc.2;rw [e1]at g1;rw [e2]at g2;have ha:c.args = #[x,y]:=by apply ad4;simpa using a6
    refine ⟨_,?_,fZ rfl⟩;simp [resolve,a8,invoke,builtin,ha,Builtin.max_,Builtin.max2,g1.v.1,g2.v.1]
   ·cases h3
  ·cases h
end
end Go.Ab
