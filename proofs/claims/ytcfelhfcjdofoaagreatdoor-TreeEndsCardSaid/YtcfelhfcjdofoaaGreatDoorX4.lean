/- Part 5 of a proof of a statement about the given program: an abstract machine over the model, proved sound, and contracts of the functions that the statement reaches; the last part proves the statement, for every input, with no condition. -/
import Derived.Test.YtcfelhfcjdofoaaGreatDoorX3
set_option autoImplicit false
set_option linter.unusedSimpArgs false
set_option linter.unusedVariables false
namespace Go.Ab
theorem aI {a b:Option Prop}:ay (fP a b)↔ay a/\ay b:=by
 cases a <;> cases b <;> simp [fP,ay]
theorem nG {G:D} {c:Prop} (a:G.tr) (h:under G c):c:=by
 cases G with| always=>exact h| when g=>exact h a
section
variable {P:Program} {T:Nat->TI} {N:Nat}
theorem aap {I:fK} {ρ:Pl} {x:Value} {a:AV} (h:evC x=some a):gB T N I ρ a x:=by
 unfold evC at h;split at h <;> first | (cases h;exact fZ rfl) | cases h
theorem zu {e:Entry} {I:fK} {ρ:Pl} {st:St} {a:Act} {w:World} (l:gJ T N e I ρ st a w) {x:Operand} {d:D} {v:AV} (h:ev st x=some (d,v)) (hd:d.tr):gB T N I ρ v (a.eval x):=by
 cases x with| tmp t=>exact (l.tm t d v h).1 hd| const c=>simp only [ev,ade,adJ]at h;obtain ⟨y,b,j,k⟩:=h;subst k;exact aap b| func f=>simp only [ev,abf,adJ]at h;obtain ⟨b,j⟩:=h;subst j;exact .one ⟨[.func (.func f) #[] #[]],.clo #[] rfl (λi c hi=>by simp at hi),rfl⟩| global g=>(cases h)
theorem bn {e:Entry} {I:fK} {ρ:Pl} {st:St} {a:Act} {w:World} (c:gJ T N e I ρ st a w) {G:D} (d:G.tr) {x:Operand} {r:AV×Option Prop}
 (h:need G (ev st x)=some r) (hc:ay r.2):gB T N I ρ r.1 (a.eval x):=by
 unfold need at h;split at h
 ·rename_i v b;cases h;exact zu c b trivial
 ·rename_i g v b;cases h;exact zu c b (nG d hc)
 ·cases h
theorem tq {e:Entry} {I:fK} {ρ:Pl} {st:St} {a:Act} {w:World} (d:gJ T N e I ρ st a w) {G:D} (c:G.tr):∀ {xs:List Operand} {r:List AV×Option Prop},
 needs G st xs=some r->ay r.2->r.1.length=xs.length /\ ∀ (i:Nat) (x:Operand) (v:AV),xs[i]? = some x->r.1[i]? = some v->gB T N I ρ v (a.eval x)
 | [],r,h,hc=>by cases h;exact ⟨rfl,λi x v hi=>by simp at hi⟩
 | x::xs,r,h,hc=>by simp only [needs,aaC]at h;obtain ⟨a1,g,l,j,k⟩:=h;cases k;rw [aI]at hc;have f:=tq d c j hc.2;refine ⟨by simp [f.1],λi y v hi b=>?_⟩;cases i with| zero=>simp at hi b;subst hi;subst b;exact bn d c g hc.1| succ i=>simp at hi b;exact f.2 i y v hi b
theorem uV {t:Nat} {v:AV} (h:fit T t v=true) (hk:(T t).kind.isAgg=true):∃ n g,v = .agg t n g:=by
 cases v <;> simp [fit,hk]at h
 exact ⟨_,_,by rw [h]⟩
theorem zU {t:Nat} {v:AV} (h:fit T t v=true) (hk:(T t).kind.isAgg=false):∀ u n g,v ≠ .agg u n g:=by
 rintro u n g rfl;simp [fit,hk]at h
theorem yx (hT:jf P T N) {I:fK} {ρ:Pl} {w:World} {t:Nat} (ht:t<N) {b off:Nat} {v:AV} {seg:List Value} (e:Rep T N I ρ v seg) (hf:fit T t v=true) (hl:seg.length=(T t).size)
 (hc:∀ o,o<(T t).size->w.cell? ⟨b,off+o,none⟩=seg[o]?):(loadVar t ⟨b,off,none⟩).run P w = .ok (fF v seg) w:=by
 cases hk:(T t).kind.isAgg with
 | true =>
  obtain ⟨n,g,rfl⟩:=uV hf hk;have c:=run_loadCells_list (P:=P) w ⟨b,off,none⟩ seg (λj v d=>by
   have f:=(List.getElem?_eq_some_iff.1 d).1;rw [show (⟨b,off,none⟩:Addr).add j=⟨b,off+j,none⟩from by unfold Addr.add;split <;> simp_all,hc j (by omega),d])
  rw [hl]at c;simp [loadVar,hT.runAgg ht,hk,hT.runSize ht,c,fF]
 | false =>
  obtain ⟨y,rfl,h⟩:=e.one (zU hf hk);have a:=hc 0 (by simp at hl;omega)
  simp only [ad2,List.length_singleton,List.getElem?_cons_zero]at a;have hp:fF v [y]=y:=by
   unfold fF;split
   ·exact absurd rfl (zU hf hk _ _ _)
   ·rfl
  simp [loadVar,hT.runAgg ht,hk,a,hp]
theorem Rep.ptr_inv {I:fK} {ρ:Pl} {id:Id} {n i:Nat} {p:List Nat} {y:Value} (h:dU T N I ρ (.ptr id n i p) y):∃ q,ρ id=some q/\n<=q.n /\
 (q.n=n->i<n/\pathIn T q.ty p/\y = .pointer (some ⟨q.b,i*(T q.ty).size+aG T q.ty p,none⟩)):=by
 obtain ⟨cs,a,c⟩:=h;cases a with
 | ptr q hp hn hx1 hx=>exact ⟨q,hp,hn,λe=>by obtain ⟨d,f,g⟩:=hx e;exact ⟨d,f,by rw [c];exact g⟩⟩
theorem Rep.rp_inv {I:fK} {ρ:Pl} {t:Nat} {x:AV} {y:Value} (h:dU T N I ρ (.rp t x) y):∃ b off seg,t<N/\Rep T N I iG x seg/\fit T t x=true/\seg.length=(T t).size /\
 (∀ o,o<(T t).size->I b (off+o)=seg[o]?)/\y = .pointer (some ⟨b,off,none⟩):=by
 obtain ⟨cs,a,c⟩:=h;cases a with
 | rp b off seg ht h hf hl hI=>exact ⟨b,off,seg,ht,h,hf,hl,hI,c⟩
theorem uS {t:Nat} {x:Option Nat} (h:Aa t x=true):x=some t:=by
 cases x with| none=>(cases h)| some u=>simp only [Aa]at h;rw [abJ h]
theorem Yg {I:fK} {ρ:Pl} {m:Id->Option Ob} {w:World} (hw:dY T N I ρ m w) {b off:Nat} {t:Nat} {seg:List Value} (hl:seg.length=(T t).size) (hI:∀ o,o<(T t).size->I b (off+o)=seg[o]?) :
 ∀ o,o<(T t).size->w.cell? ⟨b,off+o,none⟩=seg[o]? := by
 intro o a;have h:=hI o a
 rw [aaR (by omega)]at h ⊢;exact hw.imm _ _ _ h
theorem ptr_cells {I:fK} {ρ:Pl} {m:Id->Option Ob} {w:World} (hw:dY T N I ρ m w) {id:Id} {B:zI} (hm:m id=some (.cells B)) {q:Place} (e:ρ id=some q) {i:Nat} {p:List Nat} {t:Nat}
 (hi:i<B.n) (c:aY T B.ty p=some t) (a:pathIn T B.ty p) :
 ∃ seg,Rep T N I ρ ((B.get i).at p) seg/\fit T t ((B.get i).at p)=true/\seg.length=(T t).size /\ ∀ o,o<(T t).size->w.cell? ⟨q.b,i*(T q.ty).size+aG T q.ty p+o,none⟩=seg[o]? := by
 obtain ⟨p',cs,d,k,h3,h4,l,h6,h7,r,h9,j⟩:=hw.cellsAt hm e;rw [e]at d;cases d;obtain ⟨sg,f,g,h,r4⟩:=r i hi;obtain ⟨seg,v,x,y,z⟩:=f.at p g h c a;refine ⟨seg,v,x,y,λo u=>?_⟩;rw [k,<- z o u];have s:=l7 f g h c a
 rw [adN];rw [<- r4 _ (by omega)];have hsz:i*(T B.ty).size+(aG T B.ty p+o)<cs.size:=by have:(i+1)*(T B.ty).size<=B.n*(T B.ty).size:=ab7 _ hi;rw [adK]at this;omega
 simp [World.cell?,l]
theorem JR (hT:jf P T N) {I:fK} {ρ:Pl} {m:Id->Option Ob} {w:World} (hw:dY T N I ρ m w) {x v:AV} {y:Value} {t:Nat} {f:List Id} (hx:dU T N I ρ x y) (h:Vd T m t x=some (v,f)) (e:ay (nP m x)) :
 ∃ u,(Instr.loadAt t y).run P w = .ok u w/\gB T N I ρ v u:=by
 unfold Vd at h;split at h
 ·rename_i id n i p;obtain ⟨q,j,hn,hx⟩:=Rep.ptr_inv hx;split at h
  ·rename_i B hm;cases hb:(Aa t (aY T B.ty p))with
   | false=>rw [hb]at h;cases h
   | true =>
    rw [hb]at h;simp only [adv,abf,adJ]at h;obtain ⟨rfl,_⟩:=h;have c:B.n=n:=by simpa [nP,nC,hm,ay]using e
    have r:=uS hb;obtain ⟨q',cs,g1,s,z,g4,_⟩:=hw.cellsAt hm j;rw [j]at g1;cases g1;obtain ⟨hi,g,k⟩:=hx (by rw [z,c]);obtain ⟨seg,a,l,d,o⟩:=ptr_cells hw hm j (by rw [c];exact hi) r (s▸g);refine ⟨_,?_,.one a.pack⟩;subst k;simp only [Instr.loadAt,Instr.sureAddr,Sem.run_bind,Sem.run_pure,Result.andThen_ok];exact yx hT (hT.pathLt p g4 r) a l d o
  ·cases h
 ·rename_i u x';obtain ⟨b,off,seg,ht,a,l,d,o,k⟩:=Rep.rp_inv hx;cases hb:Nat.beq u t with
  | false=>rw [hb]at h;cases h
  | true =>
   rw [hb]at h;simp only [adv,abf,adJ]at h;obtain ⟨rfl,_⟩:=h;have c:=abJ hb
   subst c;refine ⟨_,?_,.one (a.mono (iK.refl _) (FP _)).pack⟩;subst k;simp only [Instr.loadAt,Instr.sureAddr,Sem.run_bind,Sem.run_pure,Result.andThen_ok];exact yx hT ht a l d (Yg hw d o)
 ·cases h
theorem jf.field (h:jf P T N) {t:Nat} {fs:List Nat} (hk:(T t).kind = .struct fs) {k u:Nat} (f:fs[k]? = some u) :
 ∃ flds b,P.underlying t=some (.struct flds)/\(∀ w,(underlying t).run P w = .ok (.struct flds) w)/\flds[k]? = some b/\b.type=u/\b.offset=lU T fs k/\u<N:=by
 have ht:t<N:=h.lt (by rw [hk];simp);obtain ⟨d,hd,c,hf⟩:=h.und t ht;rw [hk]at c;cases d <;> simp only [kindOf,reduceCtorEq,TK.struct.injEq]at c
 rename_i flds;subst c;cases a:flds[k]? with
 | none =>
  rw [Array.getElem?_eq_none_iff]at a;have:=(List.getElem?_eq_some_iff.1 f).1
  simp at this;omega
 | some b =>
  have e:b.type=u:=by
   simp only [ady,adn,a,adU,abf]at f;exact f
  exact ⟨flds,b,hd,λw=>by simp [underlying,hd],a,e,(hf flds rfl k b a).1,(h.struct t _ hk).1 u (ac8 f)⟩
theorem jD (b o k:Nat):(⟨b,o,none⟩:Addr).add k=⟨b,o+k,none⟩:=by unfold Addr.add;split <;> simp_all
theorem yU (hT:jf P T N) {u:Nat} (d:u<N) {a:Field} (hf:a.type=u) (b o:Nat) (w:World) :
 (fieldPlace ⟨b,o,none⟩ a).run P w = .ok ⟨b,o+a.offset,none⟩ w:=by
 have:=hT.size_pos d;have c:¬ (T u).size=0:=by omega
 simp [fieldPlace,hf,hT.runSize d,c,jD]
theorem LK (hT:jf P T N) {I:fK} {ρ:Pl} {m:Id->Option Ob} {w:World} (hw:dY T N I ρ m w) {x v:AV} {y:Value} {t k:Nat} {f:List Id} (hx:dU T N I ρ x y) (h:Bz T t k m x=some (v,f)) (a4:ay (nP m x)) :
 ∃ u,(Instr.fieldAt t y k).run P w = .ok u w/\gB T N I ρ v u:=by
 unfold Bz at h;split at h
 ·rename_i id n i p;obtain ⟨q,hq,hn,hx⟩:=Rep.ptr_inv hx;split at h
  ·rename_i B fs hm hk;cases hb:(Aa t (aY T B.ty p)&&Nat.blt k fs.length)with
   | false=>rw [hb]at h;cases h
   | true =>
    rw [hb]at h;simp only [adv,abf,adJ]at h;obtain ⟨rfl,_⟩:=h;simp only [abe]at hb;have s:B.n=n:=by simpa [nP,nC,hm,ay]using a4
    have e2:=uS hb.1;have z:k<fs.length:=by simpa [adV]using hb.2
    obtain ⟨q',cs,c1,c2,c3,c4,_⟩:=hw.cellsAt hm hq;rw [hq]at c1;cases c1;obtain ⟨hi,a,hy⟩:=hx (by rw [c3,s]);obtain ⟨flds,l,g1,g2,g3,g4,g5,r⟩:=hT.field hk (aaR z);have c:aY T q.ty p=some t:=c2▸e2
    have d:pathIn T t [k]:=by simp [pathIn,hk,aaR z]
    have g:aG T t [k]=lU T fs k:=by simp [aG,hk,aaR z]
    subst hy;refine ⟨.pointer (some ⟨q.b,i*(T q.ty).size+aG T q.ty p+l.offset,none⟩),?_,.one ⟨_,.ptr q hq hn rfl (λe=>⟨hi,nN p c a d,?_⟩),rfl⟩⟩
    ·simp [Instr.fieldAt,g2,g3,Instr.sureAddr,yU hT r g4]
    ·rw [lZ p c,g,g5,adN]
  ·cases h
 ·rename_i u x';obtain ⟨b,off,seg,ht,k1,k2,k3,k4,hy⟩:=Rep.rp_inv hx;cases hb:Nat.beq u t with
  | false=>rw [hb]at h;cases h
  | true =>
   rw [hb]at h;simp only [adv]at h;have s:=abJ hb
   subst s;split at h
   ·rename_i fs hk;simp only [aaC,abf,adJ]at h;obtain ⟨e,he,rfl,_⟩:=h;obtain ⟨flds,l,g1,g2,g3,g4,g5,r⟩:=hT.field hk he;have j:aY T u [k]=some e:=by simp [aY,hk,he]
    have a:pathIn T u [k]:=by simp [pathIn,hk,he]
    have a5:aG T u [k]=lU T fs k:=by simp [aG,hk,he]
    obtain ⟨sg,r1,r2,r3,r4⟩:=k1.at [k] k2 k3 j a;have b2:=l7 k1 k2 k3 j a
    subst hy;refine ⟨.pointer (some ⟨b,off+l.offset,none⟩),?_,.one ⟨_,.rp b (off+l.offset) sg r r1 r2 r3 (λo ho=>?_),rfl⟩⟩
    ·simp [Instr.fieldAt,g2,g3,Instr.sureAddr,yU hT r g4]
    ·rw [g5,<- a5,adN,k4 _ (by omega),r4 o ho]
   ·cases h
 ·cases h
theorem jf.arr (h:jf P T N) {t n e:Nat} (hk:(T t).kind = .array n e):(∀ w,(underlying t).run P w = .ok (.array n e) w):=by
 obtain ⟨d,hd,b,a⟩:=h.runUnd (h.lt (t:=t) (by rw [hk];simp));rw [hk]at a;cases d <;> simp only [kindOf,reduceCtorEq,TK.array.injEq]at a
 obtain ⟨rfl,rfl⟩:=a;exact hd
theorem jf.strU (h:jf P T N) {t:Nat} (hk:(T t).kind = .str):(∀ w,(underlying t).run P w = .ok .string w):=by
 obtain ⟨d,hd,b,a⟩:=h.runUnd (h.lt (t:=t) (by rw [hk];simp));rw [hk]at a;cases d <;> simp only [kindOf,reduceCtorEq]at a
 exact hd
theorem jf.sli (h:jf P T N) {t e:Nat} (hk:(T t).kind = .slice e):P.underlying t=some (.slice e)/\(∀ w,(underlying t).run P w = .ok (.slice e) w):=by
 obtain ⟨d,hd,b,a⟩:=h.runUnd (h.lt (t:=t) (by rw [hk];simp));rw [hk]at a;cases d <;> simp only [kindOf,reduceCtorEq,TK.slice.injEq]at a
 subst a;exact ⟨b,hd⟩
theorem Rep.row_inv {I:fK} {ρ:Pl} {e len:Nat} {full:Bool} {g:Nat->AV} {y:Value} (h:dU T N I ρ (.row e full len g) y):((∃ a,y = .slice a 0 0)/\len=0/\e<N) \/ ∃ (b off cap:Nat) (segs:Nat->List Value),e<N/\len<=cap/\cap<2 ^ 63/\(full=true->cap=len) /\
 (∀ i,i<len->Rep T N I iG (g i) (segs i))/\(∀ i,i<len->fit T e (g i)=true)/\(∀ i,i<len->(segs i).length=(T e).size) /\
 (∀ i,i<len -> ∀ o,o<(T e).size->I b (off+(i*(T e).size+o))=(segs i)[o]?)/\y = .slice (some ⟨b,off,none⟩) len cap:=by
 obtain ⟨cs,d,c⟩:=h;cases d with
 | row b off cap segs he hc hm hfull h hf hl hI=>exact .inr ⟨b,off,cap,segs,he,hc,hm,hfull,h,hf,hl,hI,c⟩
 | row0 he=>exact .inl ⟨⟨_,c⟩,rfl,he⟩
theorem Rep.own_inv {I:fK} {ρ:Pl} {id:Id} {n i len:Nat} {cap:Option Nat} {y:Value} (h:dU T N I ρ (.own id n i len cap) y):(y = .slice none 0 0/\n=0/\i=0/\len=0) \/ ∃ p,ρ id=some p/\n<=p.n /\
 (p.n=n -> ∃ c,y = .slice (some ⟨p.b,i*(T p.ty).size,none⟩) len c/\len<=c/\c<2 ^ 63/\i+len<=n/\(i+c)*(T p.ty).size<=p.lim/\(cap=none->(i+c)*(T p.ty).size=p.lim) /\ ∀ k,cap=some k->c=k):=by
 obtain ⟨cs,d,a⟩:=h;cases d with
 | own p hp hn hx1 hx=>exact .inr ⟨p,hp,hn,λe=>by
  obtain ⟨c,f,g⟩:=hx e;exact ⟨c,by rw [a];exact f,g⟩⟩
 | own0=>exact .inl ⟨a,rfl,rfl,rfl⟩
theorem Rep.arr_inv {I:fK} {ρ:Pl} {id:Id} {n i lo len hi:Nat} {path:List Nat} {y:Value} (h:dU T N I ρ (.arr id n i path lo len hi) y):∃ p,ρ id=some p/\n<=p.n /\
 (
  p.n=n->i<n /\ ∃ t k e,aY T p.ty path=some t/\pathIn T p.ty path/\(T t).kind = .array k e/\lo+len<=hi/\hi<=k/\hi<2 ^ 63 /\
  y = .slice (some ⟨p.b,i*(T p.ty).size+aG T p.ty path+lo*(T e).size,none⟩) len (hi - lo)):=by
 obtain ⟨cs,c,d⟩:=h;cases c with
 | arr p hp hn hx1 hx=>exact ⟨p,hp,hn,λe=>by
  obtain ⟨f,t,k,e,g,j,l,m,o,q,a⟩:=hx e;exact ⟨f,t,k,e,g,j,l,m,o,q,by rw [d];exact a⟩⟩
theorem QG (hT:jf P T N) {I:fK} {ρ:Pl} {m:Id->Option Ob} {w:World} (hw:dY T N I ρ m w) {x v:AV} {y:Value} {t:Nat} {k:IntKind} {j:Int} {f:List Id} {c:Prop} (hx:dU T N I ρ x y) (h:QH T t j m x=some (v,f,c)) (hc:c) (a2:ay (nP m x)) :
 ∃ u,(Instr.indexAt t y (.int k j)).run P w = .ok u w/\gB T N I ρ v u:=by
 have a:∀ {len:Nat},0<=j/\j<(len:Int)->j.toNat<len:=λh=>by omega
 unfold QH at h;split at h
 ·
   rename_i id n i p;obtain ⟨q,s,hn,hx⟩:=Rep.ptr_inv hx;split at h
   ·rename_i B len e hm hk;cases hb:(Aa t (aY T B.ty p))with
    | false=>rw [hb]at h;cases h
    | true =>
     rw [hb]at h;simp only [adv,abf,adJ]at h;obtain ⟨rfl,_,rfl⟩:=h;have z:B.n=n:=by simpa [nP,nC,hm,ay]using a2
     have e2:=uS hb;obtain ⟨q',cs,c1,c2,c3,c4,_⟩:=hw.cellsAt hm s;rw [s]at c1;cases c1;obtain ⟨hi,a0,hy⟩:=hx (by rw [c3,z]);have a4:aY T q.ty p=some t:=c2▸e2
     have l:pathIn T t [j.toNat]:=by simp [pathIn,hk,a hc]
     have r:aG T t [j.toNat]=j.toNat*(T e).size:=by simp [aG,hk]
     subst hy;refine ⟨.pointer (some ⟨q.b,i*(T q.ty).size+aG T q.ty p+j.toNat*(T e).size,none⟩),?_,.one ⟨_,.ptr q s hn rfl (λ_=>⟨hi,nN p a4 a0 l,?_⟩),rfl⟩⟩
     ·simp [Instr.indexAt,asIntOf,hT.arr hk,Instr.sureAddr,hc,hT.runSize (hT.array t len e hk).1,jD]
     ·rw [lZ p a4,r,adN]
   ·cases h
 ·
   rename_i u x';obtain ⟨b,off,seg,ht,k1,k2,k3,k4,hy⟩:=Rep.rp_inv hx;split at h
   ·rename_i len e hk;cases hb:Nat.beq u t with
    | false=>rw [hb]at h;cases h
    | true =>
     rw [hb]at h;simp only [adv,abf,adJ]at h;obtain ⟨rfl,_,rfl⟩:=h;have z:=abJ hb
     subst z;have a7:aY T u [j.toNat]=some e:=by simp [aY,hk]
     have a0:pathIn T u [j.toNat]:=by simp [pathIn,hk,a hc]
     have b1:aG T u [j.toNat]=j.toNat*(T e).size:=by simp [aG,hk]
     obtain ⟨sg,r1,r2,r3,r4⟩:=k1.at [j.toNat] k2 k3 a7 a0;have d2:=l7 k1 k2 k3 a7 a0
     subst hy;refine ⟨.pointer (some ⟨b,off+j.toNat*(T e).size,none⟩),?_,.one ⟨_,.rp b (off+j.toNat*(T e).size) sg (hT.array u len e hk).1 r1 r2 r3 (λo ho=>?_),rfl⟩⟩
     ·simp [Instr.indexAt,asIntOf,hT.arr hk,Instr.sureAddr,hc,hT.runSize (hT.array u len e hk).1,jD]
     ·rw [<- b1,adN,k4 _ (by omega),r4 o ho]
   ·cases h
 ·
   rename_i e full len g;split at h
   ·rename_i u hk;cases hb:Nat.beq e u with
    | false=>rw [hb]at h;cases h
    | true =>
     rw [hb]at h;simp only [adv,abf,adJ]at h;obtain ⟨rfl,_,rfl⟩:=h;rcases Rep.row_inv hx with ⟨_,h0,_⟩ | ⟨b,off,cap,segs,he,b5,hm,hfull,h1,h2,h3,h4,hy⟩
     ·omega
     have z:=abJ hb;subst z;have d:=a hc
     subst hy;refine ⟨.pointer (some ⟨b,off+j.toNat*(T e).size,none⟩),?_,.one ⟨_,.rp b (off+j.toNat*(T e).size) (segs j.toNat) he (h1 _ d) (h2 _ d) (h3 _ d) (λo ho=>?_),rfl⟩⟩
     ·simp [Instr.indexAt,asIntOf,(hT.sli hk).2,hc,hT.runSize he,jD]
     ·rw [adN,h4 _ d o ho]
   ·cases h
 ·
   rename_i id n i len cap;split at h
   ·rename_i B u hm hk;cases hb:(Nat.beq B.ty u)with
    | false=>rw [hb]at h;cases h
    | true =>
     rw [hb]at h;simp only [adv,abf,adJ]at h;obtain ⟨rfl,_,rfl⟩:=h;rcases Rep.own_inv hx with ⟨_,_,_,h0⟩ | ⟨q,s,hn,hx⟩
     ·omega
     have z:B.n=n:=by simpa [nP,nC,hm,ay]using a2
     have e2:=abJ hb;obtain ⟨q',cs,c1,c2,c3,c4,_⟩:=hw.cellsAt hm s;rw [s]at c1;cases c1;obtain ⟨cc,hy,g1,g2,g3,g4,g5,g6⟩:=hx (by rw [c3,z]);have d:=a hc
     subst hy;have hN:u<N:=hT.slice t u hk
     refine ⟨.pointer (some ⟨q.b,i*(T q.ty).size+j.toNat*(T u).size,none⟩),?_,.one ⟨_,.ptr q s hn rfl (λ_=>⟨by omega,trivial,?_⟩),rfl⟩⟩
     ·simp [Instr.indexAt,asIntOf,(hT.sli hk).2,hc,hT.runSize hN,jD]
     ·simp only [aG,ad2,c2,e2,fF,List.headD_cons,adD];rw [aea]
   ·cases h
 ·
   rename_i id n i p lo len hi;obtain ⟨q,s,hn,hx⟩:=Rep.arr_inv hx;split at h
   ·rename_i B u hm hk;cases hb:(Aa u (aY T B.ty (p++[0])))with
    | false=>rw [hb]at h;cases h
    | true =>
     rw [hb]at h;simp only [adv,abf,adJ]at h;obtain ⟨rfl,_,rfl⟩:=h;have z:B.n=n:=by simpa [nP,nC,hm,ay]using a2
     have e2:=uS hb;obtain ⟨q',cs,c1,c2,c3,c4,_⟩:=hw.cellsAt hm s;rw [s]at c1;cases c1;obtain ⟨a9,ta,ka,ea,g1,g2,g3,g4,g5,g6,hy⟩:=hx (by rw [c3,z]);have d:=a hc
     subst hy;have b2:ea=u:=by
      rw [<- c2,lV p g1]at e2;simpa [aY,g3]using e2
     subst b2;have hN:=(hT.array ta ka ea g3).1
     have l:pathIn T ta [lo+j.toNat]:=by simp [pathIn,g3];omega
     have r:aG T ta [lo+j.toNat]=(lo+j.toNat)*(T ea).size:=by simp [aG,g3]
     refine ⟨.pointer (some ⟨q.b,i*(T q.ty).size+aG T q.ty p+lo*(T ea).size+j.toNat*(T ea).size,none⟩),?_,.one ⟨_,.ptr q s hn rfl (λ_=>⟨a9,nN p g1 g2 l,?_⟩),rfl⟩⟩
     ·simp [Instr.indexAt,asIntOf,(hT.sli hk).2,hc,hT.runSize hN,jD]
     ·rw [lZ p g1,r,adD,<- adN,<- adN]
   ·cases h
 ·cases h
end
end Go.Ab
