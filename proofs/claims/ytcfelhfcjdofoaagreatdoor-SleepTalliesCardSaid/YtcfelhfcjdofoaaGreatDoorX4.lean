/- Part 5 of a proof of a statement about the given program: an abstract machine over the model, proved sound, and contracts of the functions that the statement reaches; the last part proves the statement, for every input, with no condition. -/
import Derived.Test.YtcfelhfcjdofoaaGreatDoorX3
set_option autoImplicit false
set_option linter.unusedSimpArgs false
set_option linter.unusedVariables false
namespace Go.Ab
theorem aB {a b:Option Prop}:aj (fG a b)↔aj a∧aj b:=by
 cases a <;> cases b <;> simp [fG,aj]
theorem jg {G:D} {c:Prop} (hG:G.tr) (h:under G c):c:=by
 cases G with
 | always=>exact h
 | when g=>exact h hG
section
variable {P:Program} {T:Nat→TI} {N:Nat}
theorem OZ {I:Imm} {ρ:Pl} {x:Value} {a:AV} (h:evC x=some a):gI T N I ρ a x:=by
 unfold evC at h;split at h <;> first | (cases h;exact cZ rfl) | cases h
theorem rY {e:Entry} {I:Imm} {ρ:Pl} {st:St} {a:Act} {w:World} (hs:dU T N e I ρ st a w) {x:Operand} {d:D} {v:AV} (h:ev st x=some (d,v)) (hd:d.tr):gI T N I ρ v (a.eval x):=by
 cases x with
 | tmp t=>exact (hs.tm t d v h).1 hd
 | const c =>
  simp only [ev,Option.map_eq_some_iff,Prod.mk.injEq]at h;obtain ⟨y,h1,h2,h3⟩:=h;subst h3;exact OZ h1
 | func f =>
  simp only [ev,Option.some.injEq,Prod.mk.injEq]at h;obtain ⟨h1,h2⟩:=h;subst h2;exact .one ⟨[.func (.func f) #[] #[]],.clo #[] rfl (fun i c hi=>by simp at hi),rfl⟩
 | global g=>cases h
theorem aI {e:Entry} {I:Imm} {ρ:Pl} {st:St} {a:Act} {w:World} (hs:dU T N e I ρ st a w) {G:D} (hG:G.tr) {x:Operand} {r:AV×Option Prop}
 (h:need G (ev st x)=some r) (hc:aj r.2):gI T N I ρ r.1 (a.eval x):=by
 unfold need at h;split at h
 ·rename_i v hv;cases h;exact rY hs hv trivial
 ·rename_i g v hv;cases h;exact rY hs hv (jg hG hc)
 ·cases h
theorem lC {e:Entry} {I:Imm} {ρ:Pl} {st:St} {a:Act} {w:World} (hs:dU T N e I ρ st a w) {G:D} (hG:G.tr):∀ {xs:List Operand} {r:List AV×Option Prop},
 needs G st xs=some r→aj r.2→r.1.length=xs.length ∧ ∀ (i:Nat) (x:Operand) (v:AV),xs[i]? = some x→r.1[i]? = some v→gI T N I ρ v (a.eval x)
 | [],r,h,hc=>by cases h;exact ⟨rfl,fun i x v hi=>by simp at hi⟩
 | x::xs,r,h,hc=>by
  simp only [needs,Option.bind_eq_some_iff]at h;obtain ⟨a1,h1,l,h2,h3⟩:=h;cases h3;rw [aB]at hc;have ih:=lC hs hG h2 hc.2
  refine ⟨by simp [ih.1],fun i y v hi hv=>?_⟩;cases i with
  | zero=>simp at hi hv;subst hi;subst hv;exact aI hs hG h1 hc.1
  | succ i=>simp at hi hv;exact ih.2 i y v hi hv
theorem nY {t:Nat} {v:AV} (h:fit T t v=true) (hk:(T t).kind.isAgg=true):∃ n g,v = .agg t n g:=by
 cases v <;> simp [fit,hk]at h
 exact ⟨_,_,by rw [h]⟩
theorem rD {t:Nat} {v:AV} (h:fit T t v=true) (hk:(T t).kind.isAgg=false):∀ u n g,v ≠ .agg u n g:=by
 rintro u n g rfl;simp [fit,hk]at h
theorem ny (hT:TOK P T N) {I:Imm} {ρ:Pl} {w:World} {t:Nat} (ht:t<N) {b off:Nat} {v:AV} {seg:List Value} (hr:Rep T N I ρ v seg) (hf:fit T t v=true) (hl:seg.length=(T t).size)
 (hc:∀ o,o<(T t).size→w.cell? ⟨b,off+o,none⟩=seg[o]?):(loadVar t ⟨b,off,none⟩).run P w = .ok (bZ v seg) w:=by
 cases hk:(T t).kind.isAgg with
 | true =>
  obtain ⟨n,g,rfl⟩:=nY hf hk;have h1:=run_loadCells_list (P:=P) w ⟨b,off,none⟩ seg (fun j v hv=>by
   have hj:=(List.getElem?_eq_some_iff.1 hv).1;rw [show (⟨b,off,none⟩:Addr).add j=⟨b,off+j,none⟩from by unfold Addr.add;split <;> simp_all,hc j (by omega),hv])
  rw [hl]at h1;simp [loadVar,hT.runAgg ht,hk,hT.runSize ht,h1,bZ]
 | false =>
  obtain ⟨y,rfl,hy⟩:=hr.one (rD hf hk);have h0:=hc 0 (by simp at hl;omega)
  simp only [Nat.add_zero,List.length_singleton,List.getElem?_cons_zero]at h0;have hp:bZ v [y]=y:=by
   unfold bZ;split
   ·exact absurd rfl (rD hf hk _ _ _)
   ·rfl
  simp [loadVar,hT.runAgg ht,hk,h0,hp]
theorem Rep.ptr_inv {I:Imm} {ρ:Pl} {id:Id} {n i:Nat} {p:List Nat} {y:Value} (h:dI T N I ρ (.ptr id n i p) y):∃ q,ρ id=some q∧n≤q.n ∧
 (q.n=n→i<n∧pathIn T q.ty p∧y = .pointer (some ⟨q.b,i*(T q.ty).size+aF T q.ty p,none⟩)):=by
 obtain ⟨cs,h1,h2⟩:=h;cases h1 with
 | ptr q hp hn hx1 hx=>exact ⟨q,hp,hn,fun e=>by obtain ⟨h3,h4,h5⟩:=hx e;exact ⟨h3,h4,by rw [h2];exact h5⟩⟩
theorem Rep.rp_inv {I:Imm} {ρ:Pl} {t:Nat} {x:AV} {y:Value} (h:dI T N I ρ (.rp t x) y):∃ b off seg,t<N∧Rep T N I iI x seg∧fit T t x=true∧seg.length=(T t).size ∧
 (∀ o,o<(T t).size→I b (off+o)=seg[o]?)∧y = .pointer (some ⟨b,off,none⟩):=by
 obtain ⟨cs,h1,h2⟩:=h;cases h1 with
 | rp b off seg ht h hf hl hI=>exact ⟨b,off,seg,ht,h,hf,hl,hI,h2⟩
theorem nS {t:Nat} {x:Option Nat} (h:CS t x=true):x=some t:=by
 cases x with
 | none=>cases h
 | some u=>simp only [CS]at h;rw [Nat.eq_of_beq_eq_true h]
theorem Lm {I:Imm} {ρ:Pl} {m:Id→Option Ob} {w:World} (hw:dR T N I ρ m w) {b off:Nat} {t:Nat} {seg:List Value} (hl:seg.length=(T t).size) (hI:∀ o,o<(T t).size→I b (off+o)=seg[o]?) :
 ∀ o,o<(T t).size→w.cell? ⟨b,off+o,none⟩=seg[o]? := by
 intro o ho;have h:=hI o ho
 rw [List.getElem?_eq_getElem (by omega)]at h ⊢;exact hw.imm _ _ _ h
theorem ptr_cells {I:Imm} {ρ:Pl} {m:Id→Option Ob} {w:World} (hw:dR T N I ρ m w) {id:Id} {B:Blk} (hm:m id=some (.cells B)) {q:Place} (hq:ρ id=some q) {i:Nat} {p:List Nat} {t:Nat}
 (hi:i<B.n) (hpt:aJ T B.ty p=some t) (hpi:pathIn T B.ty p) :
 ∃ seg,Rep T N I ρ ((B.get i).at p) seg∧fit T t ((B.get i).at p)=true∧seg.length=(T t).size ∧ ∀ o,o<(T t).size→w.cell? ⟨q.b,i*(T q.ty).size+aF T q.ty p+o,none⟩=seg[o]? := by
 obtain ⟨p',cs,h1,h2,h3,h4,h5,h6,h7,h8,h9,h10⟩:=hw.cellsAt hm hq;rw [hq]at h1;cases h1;obtain ⟨sg,r1,r2,r3,r4⟩:=h8 i hi;obtain ⟨seg,k1,k2,k3,k4⟩:=r1.at p r2 r3 hpt hpi;refine ⟨seg,k1,k2,k3,fun o ho=>?_⟩;rw [h2,← k4 o ho];have hle:=iD r1 r2 r3 hpt hpi
 rw [Nat.add_assoc];rw [← r4 _ (by omega)];have hsz:i*(T B.ty).size+(aF T B.ty p+o)<cs.size:=by
  have:(i+1)*(T B.ty).size≤B.n*(T B.ty).size:=Nat.mul_le_mul_right _ hi;rw [Nat.succ_mul]at this;omega
 simp [World.cell?,h5]
theorem Aq (hT:TOK P T N) {I:Imm} {ρ:Pl} {m:Id→Option Ob} {w:World} (hw:dR T N I ρ m w) {x v:AV} {y:Value} {t:Nat} {f:List Id} (hx:dI T N I ρ x y) (h:ldA T m t x=some (v,f)) (hnn:aj (nOf m x)) :
 ∃ u,(Instr.loadAt t y).run P w = .ok u w∧gI T N I ρ v u:=by
 unfold ldA at h;split at h
 ·rename_i id n i p;obtain ⟨q,hq,hn,hx⟩:=Rep.ptr_inv hx;split at h
  ·rename_i B hm;cases hb:(CS t (aJ T B.ty p))with
   | false=>rw [hb]at h;cases h
   | true =>
    rw [hb]at h;simp only [cond_true,Option.some.injEq,Prod.mk.injEq]at h;obtain ⟨rfl,_⟩:=h;have e1:B.n=n:=by simpa [nOf,nC,hm,aj]using hnn
    have e2:=nS hb;obtain ⟨q',cs,g1,g2,g3,g4,_⟩:=hw.cellsAt hm hq;rw [hq]at g1;cases g1;obtain ⟨hi,hpi,hy⟩:=hx (by rw [g3,e1]);obtain ⟨seg,k1,k2,k3,k4⟩:=ptr_cells hw hm hq (by rw [e1];exact hi) e2 (g2▸hpi);refine ⟨_,?_,.one k1.pack⟩;subst hy;simp only [Instr.loadAt,Instr.sureAddr,Sem.run_bind,Sem.run_pure,Result.andThen_ok];exact ny hT (hT.pathLt p g4 e2) k1 k2 k3 k4
  ·cases h
 ·rename_i u x';obtain ⟨b,off,seg,ht,k1,k2,k3,k4,hy⟩:=Rep.rp_inv hx;cases hb:Nat.beq u t with
  | false=>rw [hb]at h;cases h
  | true =>
   rw [hb]at h;simp only [cond_true,Option.some.injEq,Prod.mk.injEq]at h;obtain ⟨rfl,_⟩:=h;have e1:=Nat.eq_of_beq_eq_true hb
   subst e1;refine ⟨_,?_,.one (k1.mono (iQ.refl _) (yC _)).pack⟩;subst hy;simp only [Instr.loadAt,Instr.sureAddr,Sem.run_bind,Sem.run_pure,Result.andThen_ok];exact ny hT ht k1 k2 k3 (Lm hw k3 k4)
 ·cases h
theorem TOK.field (h:TOK P T N) {t:Nat} {fs:List Nat} (hk:(T t).kind = .struct fs) {k u:Nat} (hu:fs[k]? = some u) :
 ∃ flds fl,P.underlying t=some (.struct flds)∧(∀ w,(underlying t).run P w = .ok (.struct flds) w)∧flds[k]? = some fl∧fl.type=u∧fl.offset=lK T fs k∧u<N:=by
 have ht:t<N:=h.lt (by rw [hk];simp);obtain ⟨d,hd,hkd,hf⟩:=h.und t ht;rw [hk]at hkd;cases d <;> simp only [kindOf,reduceCtorEq,TK.struct.injEq]at hkd
 rename_i flds;subst hkd;cases hfl:flds[k]? with
 | none =>
  rw [Array.getElem?_eq_none_iff]at hfl;have:=(List.getElem?_eq_some_iff.1 hu).1
  simp at this;omega
 | some fl =>
  have e:fl.type=u:=by
   simp only [List.getElem?_map,Array.getElem?_toList,hfl,Option.map_some,Option.some.injEq]at hu;exact hu
  exact ⟨flds,fl,hd,fun w=>by simp [underlying,hd],hfl,e,(hf flds rfl k fl hfl).1,(h.struct t _ hk).1 u (List.mem_of_getElem? hu)⟩
theorem fA (b o k:Nat):(⟨b,o,none⟩:Addr).add k=⟨b,o+k,none⟩:=by unfold Addr.add;split <;> simp_all
theorem oP (hT:TOK P T N) {u:Nat} (hu:u<N) {fl:Field} (hf:fl.type=u) (b o:Nat) (w:World) :
 (fieldPlace ⟨b,o,none⟩ fl).run P w = .ok ⟨b,o+fl.offset,none⟩ w:=by
 have:=hT.size_pos hu;have hne:¬ (T u).size=0:=by omega
 simp [fieldPlace,hf,hT.runSize hu,hne,fA]
theorem AY (hT:TOK P T N) {I:Imm} {ρ:Pl} {m:Id→Option Ob} {w:World} (hw:dR T N I ρ m w) {x v:AV} {y:Value} {t k:Nat} {f:List Id} (hx:dI T N I ρ x y) (h:vJ T t k m x=some (v,f)) (hnn:aj (nOf m x)) :
 ∃ u,(Instr.fieldAt t y k).run P w = .ok u w∧gI T N I ρ v u:=by
 unfold vJ at h;split at h
 ·rename_i id n i p;obtain ⟨q,hq,hn,hx⟩:=Rep.ptr_inv hx;split at h
  ·rename_i B fs hm hk;cases hb:(CS t (aJ T B.ty p)&&Nat.blt k fs.length)with
   | false=>rw [hb]at h;cases h
   | true =>
    rw [hb]at h;simp only [cond_true,Option.some.injEq,Prod.mk.injEq]at h;obtain ⟨rfl,_⟩:=h;simp only [Bool.and_eq_true]at hb;have e1:B.n=n:=by simpa [nOf,nC,hm,aj]using hnn
    have e2:=nS hb.1;have e3:k<fs.length:=by simpa [Nat.blt_eq]using hb.2
    obtain ⟨q',cs,c1,c2,c3,c4,_⟩:=hw.cellsAt hm hq;rw [hq]at c1;cases c1;obtain ⟨hi,hpi,hy⟩:=hx (by rw [c3,e1]);obtain ⟨flds,fl,g1,g2,g3,g4,g5,g6⟩:=hT.field hk (List.getElem?_eq_getElem e3);have e2':aJ T q.ty p=some t:=c2▸e2
    have hpi1:pathIn T t [k]:=by simp [pathIn,hk,List.getElem?_eq_getElem e3]
    have hpo1:aF T t [k]=lK T fs k:=by simp [aF,hk,List.getElem?_eq_getElem e3]
    subst hy;refine ⟨.pointer (some ⟨q.b,i*(T q.ty).size+aF T q.ty p+fl.offset,none⟩),?_,.one ⟨_,.ptr q hq hn rfl (fun e=>⟨hi,iU p e2' hpi hpi1,?_⟩),rfl⟩⟩
    ·simp [Instr.fieldAt,g2,g3,Instr.sureAddr,oP hT g6 g4]
    ·rw [ig p e2',hpo1,g5,Nat.add_assoc]
  ·cases h
 ·rename_i u x';obtain ⟨b,off,seg,ht,k1,k2,k3,k4,hy⟩:=Rep.rp_inv hx;cases hb:Nat.beq u t with
  | false=>rw [hb]at h;cases h
  | true =>
   rw [hb]at h;simp only [cond_true]at h;have e1:=Nat.eq_of_beq_eq_true hb
   subst e1;split at h
   ·rename_i fs hk;simp only [Option.bind_eq_some_iff,Option.some.injEq,Prod.mk.injEq]at h;obtain ⟨e,he,rfl,_⟩:=h;obtain ⟨flds,fl,g1,g2,g3,g4,g5,g6⟩:=hT.field hk he;have hpt:aJ T u [k]=some e:=by simp [aJ,hk,he]
    have hpi:pathIn T u [k]:=by simp [pathIn,hk,he]
    have hpo:aF T u [k]=lK T fs k:=by simp [aF,hk,he]
    obtain ⟨sg,r1,r2,r3,r4⟩:=k1.at [k] k2 k3 hpt hpi;have hle:=iD k1 k2 k3 hpt hpi
    subst hy;refine ⟨.pointer (some ⟨b,off+fl.offset,none⟩),?_,.one ⟨_,.rp b (off+fl.offset) sg g6 r1 r2 r3 (fun o ho=>?_),rfl⟩⟩
    ·simp [Instr.fieldAt,g2,g3,Instr.sureAddr,oP hT g6 g4]
    ·rw [g5,← hpo,Nat.add_assoc,k4 _ (by omega),r4 o ho]
   ·cases h
 ·cases h
theorem TOK.arr (h:TOK P T N) {t n e:Nat} (hk:(T t).kind = .array n e):(∀ w,(underlying t).run P w = .ok (.array n e) w):=by
 obtain ⟨d,hd,h1,h2⟩:=h.runUnd (h.lt (t:=t) (by rw [hk];simp));rw [hk]at h2;cases d <;> simp only [kindOf,reduceCtorEq,TK.array.injEq]at h2
 obtain ⟨rfl,rfl⟩:=h2;exact hd
theorem TOK.strU (h:TOK P T N) {t:Nat} (hk:(T t).kind = .str):(∀ w,(underlying t).run P w = .ok .string w):=by
 obtain ⟨d,hd,h1,h2⟩:=h.runUnd (h.lt (t:=t) (by rw [hk];simp));rw [hk]at h2;cases d <;> simp only [kindOf,reduceCtorEq]at h2
 exact hd
theorem TOK.sli (h:TOK P T N) {t e:Nat} (hk:(T t).kind = .slice e):P.underlying t=some (.slice e)∧(∀ w,(underlying t).run P w = .ok (.slice e) w):=by
 obtain ⟨d,hd,h1,h2⟩:=h.runUnd (h.lt (t:=t) (by rw [hk];simp));rw [hk]at h2;cases d <;> simp only [kindOf,reduceCtorEq,TK.slice.injEq]at h2
 subst h2;exact ⟨h1,hd⟩
theorem Rep.row_inv {I:Imm} {ρ:Pl} {e len:Nat} {full:Bool} {g:Nat→AV} {y:Value} (h:dI T N I ρ (.row e full len g) y):((∃ a,y = .slice a 0 0)∧len=0∧e<N) ∨ ∃ (b off cap:Nat) (segs:Nat→List Value),e<N∧len≤cap∧cap<2 ^ 63∧(full=true→cap=len) ∧
 (∀ i,i<len→Rep T N I iI (g i) (segs i))∧(∀ i,i<len→fit T e (g i)=true)∧(∀ i,i<len→(segs i).length=(T e).size) ∧
 (∀ i,i<len → ∀ o,o<(T e).size→I b (off+(i*(T e).size+o))=(segs i)[o]?)∧y = .slice (some ⟨b,off,none⟩) len cap:=by
 obtain ⟨cs,h1,h2⟩:=h;cases h1 with
 | row b off cap segs he hc hm hfull h hf hl hI=>exact .inr ⟨b,off,cap,segs,he,hc,hm,hfull,h,hf,hl,hI,h2⟩
 | row0 he=>exact .inl ⟨⟨_,h2⟩,rfl,he⟩
theorem Rep.own_inv {I:Imm} {ρ:Pl} {id:Id} {n i len:Nat} {cap:Option Nat} {y:Value} (h:dI T N I ρ (.own id n i len cap) y):(y = .slice none 0 0∧n=0∧i=0∧len=0) ∨ ∃ p,ρ id=some p∧n≤p.n ∧
 (p.n=n → ∃ c,y = .slice (some ⟨p.b,i*(T p.ty).size,none⟩) len c∧len≤c∧c<2 ^ 63∧i+len≤n∧(i+c)*(T p.ty).size≤p.lim∧(cap=none→(i+c)*(T p.ty).size=p.lim) ∧ ∀ k,cap=some k→c=k):=by
 obtain ⟨cs,h1,h2⟩:=h;cases h1 with
 | own p hp hn hx1 hx=>exact .inr ⟨p,hp,hn,fun e=>by
  obtain ⟨c,h3,h4⟩:=hx e;exact ⟨c,by rw [h2];exact h3,h4⟩⟩
 | own0=>exact .inl ⟨h2,rfl,rfl,rfl⟩
theorem Rep.arr_inv {I:Imm} {ρ:Pl} {id:Id} {n i lo len hi:Nat} {path:List Nat} {y:Value} (h:dI T N I ρ (.arr id n i path lo len hi) y):∃ p,ρ id=some p∧n≤p.n ∧
 (
  p.n=n→i<n ∧ ∃ t k e,aJ T p.ty path=some t∧pathIn T p.ty path∧(T t).kind = .array k e∧lo+len≤hi∧hi≤k∧hi<2 ^ 63 ∧
  y = .slice (some ⟨p.b,i*(T p.ty).size+aF T p.ty path+lo*(T e).size,none⟩) len (hi - lo)):=by
 obtain ⟨cs,h1,h2⟩:=h;cases h1 with
 | arr p hp hn hx1 hx=>exact ⟨p,hp,hn,fun e=>by
  obtain ⟨h3,t,k,e,h4,h5,h6,h7,h8,h9,h10⟩:=hx e;exact ⟨h3,t,k,e,h4,h5,h6,h7,h8,h9,by rw [h2];exact h10⟩⟩
theorem Gg (hT:TOK P T N) {I:Imm} {ρ:Pl} {m:Id→Option Ob} {w:World} (hw:dR T N I ρ m w) {x v:AV} {y:Value} {t:Nat} {k:IntKind} {j:Int} {f:List Id} {c:Prop} (hx:dI T N I ρ x y) (h:OG T t j m x=some (v,f,c)) (hc:c) (hnn:aj (nOf m x)) :
 ∃ u,(Instr.indexAt t y (.int k j)).run P w = .ok u w∧gI T N I ρ v u:=by
 have natlt:∀ {len:Nat},0≤j∧j<(len:Int)→j.toNat<len:=fun h=>by omega
 unfold OG at h;split at h
 ·
   rename_i id n i p;obtain ⟨q,hq,hn,hx⟩:=Rep.ptr_inv hx;split at h
   ·rename_i B len e hm hk;cases hb:(CS t (aJ T B.ty p))with
    | false=>rw [hb]at h;cases h
    | true =>
     rw [hb]at h;simp only [cond_true,Option.some.injEq,Prod.mk.injEq]at h;obtain ⟨rfl,_,rfl⟩:=h;have e1:B.n=n:=by simpa [nOf,nC,hm,aj]using hnn
     have e2:=nS hb;obtain ⟨q',cs,c1,c2,c3,c4,_⟩:=hw.cellsAt hm hq;rw [hq]at c1;cases c1;obtain ⟨hi,hpi,hy⟩:=hx (by rw [c3,e1]);have e2':aJ T q.ty p=some t:=c2▸e2
     have hpi1:pathIn T t [j.toNat]:=by simp [pathIn,hk,natlt hc]
     have hpo1:aF T t [j.toNat]=j.toNat*(T e).size:=by simp [aF,hk]
     subst hy;refine ⟨.pointer (some ⟨q.b,i*(T q.ty).size+aF T q.ty p+j.toNat*(T e).size,none⟩),?_,.one ⟨_,.ptr q hq hn rfl (fun _=>⟨hi,iU p e2' hpi hpi1,?_⟩),rfl⟩⟩
     ·simp [Instr.indexAt,asIntOf,hT.arr hk,Instr.sureAddr,hc,hT.runSize (hT.array t len e hk).1,fA]
     ·rw [ig p e2',hpo1,Nat.add_assoc]
   ·cases h
 ·
   rename_i u x';obtain ⟨b,off,seg,ht,k1,k2,k3,k4,hy⟩:=Rep.rp_inv hx;split at h
   ·rename_i len e hk;cases hb:Nat.beq u t with
    | false=>rw [hb]at h;cases h
    | true =>
     rw [hb]at h;simp only [cond_true,Option.some.injEq,Prod.mk.injEq]at h;obtain ⟨rfl,_,rfl⟩:=h;have e1:=Nat.eq_of_beq_eq_true hb
     subst e1;have hpt:aJ T u [j.toNat]=some e:=by simp [aJ,hk]
     have hpi:pathIn T u [j.toNat]:=by simp [pathIn,hk,natlt hc]
     have hpo:aF T u [j.toNat]=j.toNat*(T e).size:=by simp [aF,hk]
     obtain ⟨sg,r1,r2,r3,r4⟩:=k1.at [j.toNat] k2 k3 hpt hpi;have hle:=iD k1 k2 k3 hpt hpi
     subst hy;refine ⟨.pointer (some ⟨b,off+j.toNat*(T e).size,none⟩),?_,.one ⟨_,.rp b (off+j.toNat*(T e).size) sg (hT.array u len e hk).1 r1 r2 r3 (fun o ho=>?_),rfl⟩⟩
     ·simp [Instr.indexAt,asIntOf,hT.arr hk,Instr.sureAddr,hc,hT.runSize (hT.array u len e hk).1,fA]
     ·rw [← hpo,Nat.add_assoc,k4 _ (by omega),r4 o ho]
   ·cases h
 ·
   rename_i e full len g;split at h
   ·rename_i u hk;cases hb:Nat.beq e u with
    | false=>rw [hb]at h;cases h
    | true =>
     rw [hb]at h;simp only [cond_true,Option.some.injEq,Prod.mk.injEq]at h;obtain ⟨rfl,_,rfl⟩:=h;rcases Rep.row_inv hx with ⟨_,h0,_⟩ | ⟨b,off,cap,segs,he,hcap,hm,hfull,h1,h2,h3,h4,hy⟩
     ·omega
     have e1:=Nat.eq_of_beq_eq_true hb;subst e1;have hjl:=natlt hc
     subst hy;refine ⟨.pointer (some ⟨b,off+j.toNat*(T e).size,none⟩),?_,.one ⟨_,.rp b (off+j.toNat*(T e).size) (segs j.toNat) he (h1 _ hjl) (h2 _ hjl) (h3 _ hjl) (fun o ho=>?_),rfl⟩⟩
     ·simp [Instr.indexAt,asIntOf,(hT.sli hk).2,hc,hT.runSize he,fA]
     ·rw [Nat.add_assoc,h4 _ hjl o ho]
   ·cases h
 ·
   rename_i id n i len cap;split at h
   ·rename_i B u hm hk;cases hb:(Nat.beq B.ty u)with
    | false=>rw [hb]at h;cases h
    | true =>
     rw [hb]at h;simp only [cond_true,Option.some.injEq,Prod.mk.injEq]at h;obtain ⟨rfl,_,rfl⟩:=h;rcases Rep.own_inv hx with ⟨_,_,_,h0⟩ | ⟨q,hq,hn,hx⟩
     ·omega
     have e1:B.n=n:=by simpa [nOf,nC,hm,aj]using hnn
     have e2:=Nat.eq_of_beq_eq_true hb;obtain ⟨q',cs,c1,c2,c3,c4,_⟩:=hw.cellsAt hm hq;rw [hq]at c1;cases c1;obtain ⟨cc,hy,g1,g2,g3,g4,g5,g6⟩:=hx (by rw [c3,e1]);have hjl:=natlt hc
     subst hy;have hN:u<N:=hT.slice t u hk
     refine ⟨.pointer (some ⟨q.b,i*(T q.ty).size+j.toNat*(T u).size,none⟩),?_,.one ⟨_,.ptr q hq hn rfl (fun _=>⟨by omega,trivial,?_⟩),rfl⟩⟩
     ·simp [Instr.indexAt,asIntOf,(hT.sli hk).2,hc,hT.runSize hN,fA]
     ·simp only [aF,Nat.add_zero,c2,e2,bZ,List.headD_cons,Nat.add_mul];rw [Nat.add_comm]
   ·cases h
 ·
   rename_i id n i p lo len hi;obtain ⟨q,hq,hn,hx⟩:=Rep.arr_inv hx;split at h
   ·rename_i B u hm hk;cases hb:(CS u (aJ T B.ty (p++[0])))with
    | false=>rw [hb]at h;cases h
    | true =>
     rw [hb]at h;simp only [cond_true,Option.some.injEq,Prod.mk.injEq]at h;obtain ⟨rfl,_,rfl⟩:=h;have e1:B.n=n:=by simpa [nOf,nC,hm,aj]using hnn
     have e2:=nS hb;obtain ⟨q',cs,c1,c2,c3,c4,_⟩:=hw.cellsAt hm hq;rw [hq]at c1;cases c1;obtain ⟨hi',ta,ka,ea,g1,g2,g3,g4,g5,g6,hy⟩:=hx (by rw [c3,e1]);have hjl:=natlt hc
     subst hy;have hue:ea=u:=by
      rw [← c2,gZ p g1]at e2;simpa [aJ,g3]using e2
     subst hue;have hN:=(hT.array ta ka ea g3).1
     have hpi1:pathIn T ta [lo+j.toNat]:=by simp [pathIn,g3];omega
     have hpo1:aF T ta [lo+j.toNat]=(lo+j.toNat)*(T ea).size:=by simp [aF,g3]
     refine ⟨.pointer (some ⟨q.b,i*(T q.ty).size+aF T q.ty p+lo*(T ea).size+j.toNat*(T ea).size,none⟩),?_,.one ⟨_,.ptr q hq hn rfl (fun _=>⟨hi',iU p g1 g2 hpi1,?_⟩),rfl⟩⟩
     ·simp [Instr.indexAt,asIntOf,(hT.sli hk).2,hc,hT.runSize hN,fA]
     ·rw [ig p g1,hpo1,Nat.add_mul,← Nat.add_assoc,← Nat.add_assoc]
   ·cases h
 ·cases h
end
end Go.Ab
