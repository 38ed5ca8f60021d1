/- Part 4 of a proof of a statement about the given program: an abstract machine over the model, proved sound, and contracts of the functions that the statement reaches; the last part proves the statement, for every input, with no condition. -/
import Derived.Test.YtcfelhfcjdofoaaGreatDoorX2
import Derived.Laws.Cells
import Derived.Laws.CopyRow
import Derived.Maps.AppendAt
set_option autoImplicit false
set_option linter.unusedSimpArgs false
set_option linter.unusedVariables false
namespace Go.Ab
def kindOf:TypeDesc→TK
 | .int k => .int k
 | .bool => .bool
 | .string => .str
 | .slice e => .slice e
 | .array n e => .array n e
 | .pointer e => .ptr e
 | .map k v => .map k v
 | .struct fs => .struct (fs.toList.map (·.type))
 | _ => .other
def bZ (x:AV) (cs:List Value):Value :=
 match x with
 | .agg _ _ _ => .agg cs.toArray
 | _=>cs.headD undef
structure TOK (P:Program) (T:Nat→TI) (N:Nat):Prop where
 info:∀ t,t<N → ∃ i,P.info? t=some i∧i.size=(T t).size∧i.bytes=(T t).bytes
 und:∀ t,t<N → ∃ d,P.underlying t=some d∧kindOf d=(T t).kind ∧
  ∀ flds,d = .struct flds → ∀ k f,flds[k]? = some f→f.offset=lK T (flds.toList.map (·.type)) k∧f.name ≠ "_"
 out:∀ t,¬ t<N→(T t).kind = .other∧(T t).size=0
 one:∀ t,t<N→(T t).kind.isAgg=false→(T t).size=1
 struct:∀ t fs,(T t).kind = .struct fs→(∀ u∈fs,u<N)∧(T t).size=lK T fs fs.length
 array:∀ t n e,(T t).kind = .array n e→e<N∧(T t).size=n*(T e).size
 slice:∀ t e,(T t).kind = .slice e→e<N
 map:∀ t k e,(T t).kind = .map k e→k<N∧e<N
 pos:∀ t,t<N→(T t).kind.isAgg=true→0<(T t).size
 zero:∀ t,t<N→oL (T t).zero=true → ∃ i z,P.info? t=some i∧i.zero=some z∧fit T t (T t).zero=true ∧ ∀ I ρ,Rep T N I ρ (T t).zero z.cells.toList
 zpack:∀ t,t<N→oL (T t).zero=true → ∀ i z,P.info? t=some i→i.zero=some z→bZ (T t).zero z.cells.toList=z
section
variable {P:Program} {T:Nat→TI} {N:Nat}
theorem TOK.lt (h:TOK P T N) {t:Nat} (hk:(T t).kind ≠ .other):t<N:=by
 rcases Nat.lt_or_ge t N with h' | h'
 ·exact h'
 ·exact absurd (h.out t (by omega)).1 hk
theorem TOK.lt_size (h:TOK P T N) {t:Nat} (hk:0<(T t).size):t<N:=by
 rcases Nat.lt_or_ge t N with h' | h'
 ·exact h'
 ·have:=(h.out t (by omega)).2;omega
theorem TOK.size_pos (h:TOK P T N) {t:Nat} (ht:t<N):0<(T t).size:=by
 cases hk:(T t).kind.isAgg with
 | true=>exact h.pos t ht hk
 | false=>rw [h.one t ht hk];exact Nat.one_pos
theorem TOK.runUnd (h:TOK P T N) {t:Nat} (ht:t<N):∃ d,(∀ w,(underlying t).run P w = .ok d w)∧P.underlying t=some d∧kindOf d=(T t).kind:=by
 obtain ⟨d,hd,hk,_⟩:=h.und t ht;exact ⟨d,fun w=>by simp [underlying,hd],hd,hk⟩
theorem TOK.runSize (h:TOK P T N) {t:Nat} (ht:t<N) (w:World):(sizeOf t).run P w = .ok (T t).size w:=by
 obtain ⟨i,hi,hs,_⟩:=h.info t ht;simp [sizeOf,typeInfo,hi,hs]
theorem TOK.runAgg (h:TOK P T N) {t:Nat} (ht:t<N) (w:World):(isAgg t).run P w = .ok (T t).kind.isAgg w:=by
 obtain ⟨d,hd,_,hk⟩:=h.runUnd ht;simp only [isAgg,Sem.run_bind,hd,Result.andThen_ok,← hk];cases d <;> rfl
theorem TOK.pathLt (h:TOK P T N) (p:List Nat):∀ {t u:Nat},t<N→aJ T t p=some u→u<N:=by
 induction p with
 | nil=>intro t u ht hu;simp only [aJ,Option.some.injEq]at hu;omega
 | cons k p ih =>
  intro t u ht hu;simp only [aJ]at hu;split at hu
  ·rename_i fs hk;cases hf:fs[k]? with
   | none=>rw [hf]at hu;cases hu
   | some v =>
    rw [hf]at hu;exact ih ((h.struct t fs hk).1 v (List.mem_of_getElem? hf)) hu
  ·rename_i n e hk;exact ih (h.array t n e hk).1 hu
  ·cases hu
theorem gZ (p:List Nat):∀ {t u k:Nat},aJ T t p=some u→aJ T t (p++[k])=aJ T u [k]:=by
 induction p with
 | nil=>intro t u k hu;simp only [aJ,Option.some.injEq]at hu;subst hu;rfl
 | cons j p ih =>
  intro t u k hu;simp only [aJ,List.cons_append]at hu ⊢;split at hu
  ·rename_i fs hk;cases hf:fs[j]? with
   | none=>rw [hf]at hu;cases hu
   | some v=>rw [hf]at hu;simpa [aJ]using ih hu
  ·simpa [aJ]using ih hu
  ·cases hu
theorem ig (p:List Nat):∀ {t u k:Nat},aJ T t p=some u→aF T t (p++[k])=aF T t p+aF T u [k]:=by
 induction p with
 | nil=>intro t u k hu;simp only [aJ,Option.some.injEq]at hu;subst hu;simp [aF]
 | cons j p ih =>
  intro t u k hu;simp only [aJ]at hu;simp only [List.cons_append];rw [aF,aF];split at hu
  ·rename_i fs hk;cases hf:fs[j]? with
   | none=>rw [hf]at hu;cases hu
   | some v =>
    rw [hf]at hu;simp only [hk,hf];rw [ih (k:=k) hu];omega
  ·rename_i n e hk;simp only [hk];rw [ih (k:=k) hu];omega
  ·cases hu
theorem iU (p:List Nat):∀ {t u k:Nat},aJ T t p=some u→pathIn T t p→pathIn T u [k]→pathIn T t (p++[k]):=by
 induction p with
 | nil=>intro t u k hu _ hk;simp only [aJ,Option.some.injEq]at hu;subst hu;exact hk
 | cons j p ih =>
  intro t u k hu hi hk;simp only [aJ]at hu;simp only [List.cons_append];rw [pathIn]at hi ⊢;split at hu
  ·rename_i fs hkd;simp only [hkd]at hi ⊢;cases hf:fs[j]? with
   | none=>rw [hf]at hu;cases hu
   | some v =>
    rw [hf]at hu;simp only [hf]at hi ⊢;exact ih hu hi hk
  ·rename_i n e hkd;simp only [hkd]at hi ⊢;exact ⟨hi.1,ih hu hi.2 hk⟩
  ·cases hu
theorem yX (p:List Nat) (k:Nat):∀ x:AV,x.at (p++[k])=(x.at p).at [k]:=by
 induction p with
 | nil=>intro x;simp [AV.at]
 | cons j p ih=>intro x;cases x <;> simp [AV.at,ih,AV.bad]
end
section
variable (T:Nat→TI) (N:Nat)
def dI (I:Imm) (ρ:Pl) (x:AV) (y:Value):Prop := ∃ cs,Rep T N I ρ x cs∧y=bZ x cs
inductive gI (I:Imm) (ρ:Pl):AV→Value→Prop
 | one {x:AV} {y:Value} (h:dI T N I ρ x y):gI I ρ x y
 | tup {vs:List AV} (ys:Array Value) (hl:ys.size=vs.length) (h:∀ i c,vs[i]? = some c→dI T N I ρ c (ys.getD i undef)):gI I ρ (.tup vs) (.tuple ys)
structure dR (I:Imm) (ρ:Pl) (m:Id→Option Ob) (w:World):Prop where
 cells:∀ id B,m id=some (.cells B)→(ρ id=none∧B.n=0∧B.fz=0∧B.ty<N) ∨ ∃ p cs,ρ id=some p∧p.ty=B.ty∧p.n=B.n∧B.ty<N∧w.heap[p.b]? = some (.cells cs B.ty (0,0))∧cs.size=p.lim∧B.n*(T B.ty).size≤p.lim ∧
  (∀ i,i<B.n → ∃ seg,Rep T N I ρ (B.get i) seg∧fit T B.ty (B.get i)=true∧seg.length=(T B.ty).size ∧ ∀ o,o<(T B.ty).size→cs[i*(T B.ty).size+o]? = seg[o]?) ∧
  (∀ j,I p.b j≠none→j<B.fz*(T B.ty).size)∧B.fz≤B.n
 maps:∀ id es,m id=some (.map es) → ∃ p entries clock,ρ id=some p∧p.n=0∧w.heap[p.b]? = some (.map entries clock)∧entries.size=es.length∧(∀ j,I p.b j=none) ∧
  ∀ (i:Nat) (k v:AV),es[i]? = some (k,v) → ∃ e:MapEntry,entries[i]? = some e∧dI T N I ρ k e.key∧dI T N I ρ v e.val
 dom:∀ id p,ρ id=some p→m id≠none
 inj:∀ i j p q,ρ i=some p→ρ j=some q→p.b=q.b→i=j
 imm:∀ b o y,I b o=some y→w.cell? ⟨b,o,none⟩=some y
 gl:∀ (b o n:Nat),(T b).glb[o]? = some n→I b o=some (.int .u8 n)
structure Ev (I:Imm) (ρ:Pl) (w:World) (I':Imm) (ρ':Pl) (w':World):Prop where
 imm:iQ I I'
 immN:∀ b o,I b o=none→I' b o≠none→(∃ id p,ρ id=some p∧p.b=b)∨w.heap.size≤b
 pl:iP ρ ρ'
 plN:∀ id p',ρ' id=some p'→(∃ id0 p,ρ id0=some p∧p.b=p'.b)∨w.heap.size≤p'.b
 frame:∀ b,b<w.heap.size→(∀ id p,ρ id=some p→p.b≠b)→w'.heap[b]? = w.heap[b]?
 size:w.heap.size≤w'.heap.size
 os:w'.os=w.os
 output:w'.output=w.output
 tape:w'.tape=w.tape∧w.drawn≤w'.drawn
structure Entry where
 I:Imm
 ρ:Pl
 w:World
 nt:Nat
 nb:Nat
 nd:Bool
def wY (D:Nat):Deferred:={ target := .collected D,args := #[] }
def Marks (n0:Nat) (ρ:Pl) (w:World) (ds:List Deferred):Prop :=
 ∃ Ds:List Nat,Ds.Nodup∧ds=Ds.map wY ∧ ∀ D∈Ds,w.heap[D]? = some (.deferred (some []))∧n0≤D ∧ ∀ id p,ρ id=some p→p.b≠D
structure dU (e:Entry) (I:Imm) (ρ:Pl) (st:St) (a:Act) (w:World):Prop where
 wr:dR T N I ρ st.m w
 tm:∀ t d x,st.t t=some (d,x)→(d.tr→gI T N I ρ x (a.tmps.getD t undef))∧(¬ d.tr→a.tmps.getD t undef=undef)
 nt:a.tmps.size=e.nt
 df:Marks e.w.heap.size ρ w a.defers∧(e.nd=true→a.defers=[])
 ev:Ev e.I e.ρ e.w I ρ w
 eb:∀ id p,e.ρ id=some p → ∃ j,j<e.nb∧id = .b j
end
section
variable {P:Program} {T:Nat→TI} {N:Nat}
theorem Marks.nil {n0:Nat} {ρ:Pl} {w:World}:Marks n0 ρ w []:=⟨[],List.nodup_nil,rfl,fun D h=>by cases h⟩
theorem Marks.ev {n0:Nat} {I I':Imm} {ρ ρ':Pl} {w w':World} {ds:List Deferred} (h:Marks n0 ρ w ds) (hev:Ev I ρ w I' ρ' w'):Marks n0 ρ' w' ds:=by
 obtain ⟨Ds,h1,h2,h3⟩:=h;refine ⟨Ds,h1,h2,fun D hD=>?_⟩;obtain ⟨k1,k2,k3⟩:=h3 D hD;have hlt:D<w.heap.size:=(Array.getElem?_eq_some_iff.1 k1).1
 refine ⟨by rw [hev.frame D hlt (fun id p hp=>k3 id p hp)];exact k1,k2,fun id p hp=>?_⟩;rcases hev.plN id p hp with ⟨id0,p0,h0,e0⟩ | h0
 ·rw [← e0];exact k3 id0 p0 h0
 ·omega
theorem Marks.sub {n0:Nat} {ρ ρ':Pl} {w:World} {ds:List Deferred} (h:Marks n0 ρ w ds) (hs:∀ id p,ρ' id=some p → ∃ id0,ρ id0=some p):Marks n0 ρ' w ds:=by
 obtain ⟨Ds,h1,h2,h3⟩:=h;refine ⟨Ds,h1,h2,fun D hD=>?_⟩;obtain ⟨k1,k2,k3⟩:=h3 D hD;refine ⟨k1,k2,fun id p hp=>?_⟩;obtain ⟨id0,h0⟩:=hs id p hp;exact k3 id0 p h0
theorem Ev.refl (I:Imm) (ρ:Pl) (w:World):Ev I ρ w I ρ w :=
 ⟨iQ.refl _,fun b o h h'=>absurd h h',iP.refl _,fun id p' h => .inl ⟨id,p',h,rfl⟩,fun _ _ _=>rfl,Nat.le_refl _,rfl,rfl,⟨rfl,Nat.le_refl _⟩⟩
theorem Ev.trans {I0 I1 I2:Imm} {ρ0 ρ1 ρ2:Pl} {w0 w1 w2:World} (h:Ev I0 ρ0 w0 I1 ρ1 w1) (k:Ev I1 ρ1 w1 I2 ρ2 w2):Ev I0 ρ0 w0 I2 ρ2 w2 where
 imm:=h.imm.trans k.imm
 immN:=fun b o hn hs=>by
  by_cases h1:I1 b o=none
  ·rcases k.immN b o h1 hs with ⟨id,p,hp,hb⟩ | hb
   ·rcases h.plN id p hp with ⟨id0,p0,h0,e0⟩ | h0
    ·exact .inl ⟨id0,p0,h0,e0.trans hb⟩
    ·exact .inr (hb▸h0)
   ·exact .inr (Nat.le_trans h.size hb)
  ·exact h.immN b o hn h1
 pl:=h.pl.trans k.pl
 plN:=fun id p' hp=>by
  rcases k.plN id p' hp with ⟨id1,p1,h1,e1⟩ | h1
  ·rcases h.plN id1 p1 h1 with ⟨id0,p0,h0,e0⟩ | h0
   ·exact .inl ⟨id0,p0,h0,e0.trans e1⟩
   ·exact .inr (e1▸h0)
  ·exact .inr (Nat.le_trans h.size h1)
 frame:=fun b hb hne=>by
  rw [k.frame b (Nat.lt_of_lt_of_le hb h.size) (fun id p hp e=>?_),h.frame b hb hne];rcases h.plN id p hp with ⟨id0,p0,h0,e0⟩ | h0
  ·exact hne id0 p0 h0 (e0.trans e)
  ·omega
 size:=Nat.le_trans h.size k.size
 os:=k.os.trans h.os
 output:=k.output.trans h.output
 tape:=⟨k.tape.1.trans h.tape.1,Nat.le_trans h.tape.2 k.tape.2⟩
theorem dI.mono {I I':Imm} {ρ ρ':Pl} {x:AV} {y:Value} (h:dI T N I ρ x y) (hI:iQ I I') (hp:iP ρ ρ'):dI T N I' ρ' x y:=by
 obtain ⟨cs,h1,h2⟩:=h;exact ⟨cs,h1.mono hI hp,h2⟩
theorem gI.mono {I I':Imm} {ρ ρ':Pl} {x:AV} {y:Value} (h:gI T N I ρ x y) (hI:iQ I I') (hp:iP ρ ρ'):gI T N I' ρ' x y:=by
 cases h with
 | one h=>exact .one (h.mono hI hp)
 | tup ys hl h=>exact .tup ys hl (fun i c hi=>(h i c hi).mono hI hp)
theorem dR.cellsAt {I:Imm} {ρ:Pl} {m:Id→Option Ob} {w:World} (hw:dR T N I ρ m w) {id:Id} {B:Blk} (hm:m id=some (.cells B)) {q:Place} (hq:ρ id=some q) :
 ∃ p cs,ρ id=some p∧p.ty=B.ty∧p.n=B.n∧B.ty<N∧w.heap[p.b]? = some (.cells cs B.ty (0,0))∧cs.size=p.lim∧B.n*(T B.ty).size≤p.lim ∧
 (∀ i,i<B.n → ∃ seg,Rep T N I ρ (B.get i) seg∧fit T B.ty (B.get i)=true∧seg.length=(T B.ty).size ∧ ∀ o,o<(T B.ty).size→cs[i*(T B.ty).size+o]? = seg[o]?) ∧
 (∀ j,I p.b j≠none→j<B.fz*(T B.ty).size)∧B.fz≤B.n:=by
 rcases hw.cells id B hm with ⟨h,_⟩ | h
 ·rw [h]at hq;cases hq
 ·exact h
theorem gI.rep1 {I:Imm} {ρ:Pl} {x:AV} {y:Value} (h:gI T N I ρ x y) (hx:∀ vs,x ≠ .tup vs):dI T N I ρ x y:=by
 cases h with
 | one h=>exact h
 | tup=>exact absurd rfl (hx _)
theorem qX {I:Imm} {ρ:Pl} {vs:List AV} {cs:List Value} (h:Rep T N I ρ (.tup vs) cs):False:=by cases h
theorem dI.v {I:Imm} {ρ:Pl} {x y:Value} (h:dI T N I ρ (.v x) y):y=x∧kK x=true:=by
 obtain ⟨cs,h1,h2⟩:=h;cases h1 with
 | v h=>exact ⟨h2,h⟩
theorem gI.v {I:Imm} {ρ:Pl} {x y:Value} (h:gI T N I ρ (.v x) y):y=x∧kK x=true:=(h.rep1 (fun _=>by simp)).v
theorem wQ {I:Imm} {ρ:Pl} {x:Value} (h:kK x=true):dI T N I ρ (.v x) x:=⟨[x],.v h,rfl⟩
theorem cZ {I:Imm} {ρ:Pl} {x:Value} (h:kK x=true):gI T N I ρ (.v x) x := .one (wQ h)
theorem dI.cells {I:Imm} {ρ:Pl} {x:AV} {y:Value} (h:dI T N I ρ x y):Rep T N I ρ x y.cells.toList:=by
 obtain ⟨cs,h1,h2⟩:=h;by_cases hx:∃ t n g,x = .agg t n g
 ·obtain ⟨t,n,g,rfl⟩:=hx;subst h2;simpa [bZ,Value.cells]using h1
 ·obtain ⟨y',rfl,hy1⟩:=h1.one (fun t n g e=>hx ⟨t,n,g,e⟩);have:bZ x [y']=y':=by
   unfold bZ;split
   ·exact absurd ⟨_,_,_,rfl⟩ hx
   ·rfl
  rw [this]at h2;subst h2;have:y.cells = #[y]:=by cases y <;> first | rfl | simp [Value.oneCell']at hy1
  rw [this];exact h1
theorem Rep.pack {I:Imm} {ρ:Pl} {x:AV} {cs:List Value} (h:Rep T N I ρ x cs):dI T N I ρ x (bZ x cs):=⟨cs,h,rfl⟩
end
end Go.Ab
