/- Part 23 of a proof of a statement about the given program: an abstract machine over the model, proved sound, and contracts of the functions that the statement reaches; the last part proves the statement, for every input, with no condition. -/
import Derived.Test.YtcfelhfcjdofoaaGreatDoorX19
import Derived.Test.YtcfelhfcjdofoaaGreatDoorX13
import Derived.LaidMore
import Derived.Lay
import Derived.OpenShut
import Derived.ProofKit
import Derived.SevenTiedAt
import Derived.Stop.Joined
import Derived.Test.YtcfelhfcjdofoaaGreatDoorCards
import Derived.Test.YtcfelhfcjdofoaaGreatDoorTie
import Derived.Test.YtcfelhfcjdofoaaGreatDoorRows
set_option autoImplicit false
set_option linter.unusedSimpArgs false
set_option linter.unusedVariables false
set_option maxRecDepth 20000
namespace Go.Ab
open Go.Proofs Go.ChangeShapes Go.WideShapes Go.ChangeAt Go.RowKit
theorem Z8:ownKnob Tryz.prog.godebug=none:=by kernel_rfl
theorem Yt:laidOutB Tryz.prog=true:=by kernel_rfl
theorem abP:Tryz.prog.underlying 2=some (.int .i64):=by kernel_rfl
theorem abO:Tryz.prog.underlying 3=some (.int .i64):=by kernel_rfl
theorem ZE:Tryz.prog.underlying 4=some .bool:=by kernel_rfl
theorem uOp:Tryz.prog.underlying 118=some (.int .i64):=by kernel_rfl
theorem aa7:Tryz.prog.underlying 23=some (.slice 3):=by kernel_rfl
theorem aa5:Tryz.prog.underlying 22=some (.slice 116):=by kernel_rfl
theorem aa9:Tryz.prog.underlying 24=some (.slice 100):=by kernel_rfl
theorem aa8:Tryz.prog.underlying 97=some (.slice 120):=by kernel_rfl
theorem aa6:Tryz.prog.underlying 98=some (.slice 103):=by kernel_rfl
theorem Z4:Tryz.prog.underlying 101=some (.slice 215):=by kernel_rfl
def D6 (n:Int):Prop:=IntKind.i64.min<=n/\n<=IntKind.i64.max
theorem oC:Dec Tryz.prog T aJ 3 (λn:Int => .int n) D6:=Dec.int abO rfl
theorem XY:Dec Tryz.prog T aJ 2 (λn:Int => .int n) D6:=Dec.int abP rfl
theorem abx:Dec Tryz.prog T aJ 118 (λn:Int => .int n) D6:=Dec.int uOp rfl
theorem Sj:Dec Tryz.prog T aJ 4 (λb:Bool => .bool b) (λ_=>True):=Dec.bool ZE rfl
theorem Zv:Dec Tryz.prog T aJ 23 (λl:List Int=>ints false l) (λl => ∀ n∈l,D6 n):=(Dec.slice hT 0 aa7 rfl (abJ rfl) oC).map (λl=>l) (λ_=>rfl) (λ_ h=>h)
theorem decVar:Dec Tryz.prog T aJ 116 Lc (λv=>D6 v.init) :=
 (Dec.struct (t:=116) hT (show (T 116).kind = .struct [4,2]from rfl) (lQ.cons Sj (lQ.cons XY lQ.nil))).map (λx=>⟨x.1,x.2.1⟩) (λ_=>rfl) (λx hx=>hx.2.1)
def VW (x:iF):Prop:=D6 x.op/\D6 x.a/\D6 x.b/\D6 x.c/\D6 x.n
theorem aaN:Dec Tryz.prog T aJ 120 aT VW :=
 (Dec.struct (t:=120) hT (show (T 120).kind = .struct [118,3,3,3,2]from rfl) (lQ.cons abx (lQ.cons oC (lQ.cons oC (lQ.cons oC (lQ.cons XY lQ.nil)))))).map (λx=>⟨x.1,x.2.1,x.2.2.1,x.2.2.2.1,x.2.2.2.2.1⟩) (λ_=>rfl) (λx hx=>⟨hx.1,hx.2.1,hx.2.2.1,hx.2.2.2.1,hx.2.2.2.2.1⟩)
def Q9 (x:zf):Prop:=D6 x.chan/\D6 x.reg/\D6 x.to
theorem Zw:Dec Tryz.prog T aJ 215 qg Q9 :=
 (Dec.struct (t:=215) hT (show (T 215).kind = .struct [4,3,3,3]from rfl) (lQ.cons Sj (lQ.cons oC (lQ.cons oC (lQ.cons oC lQ.nil))))).map (λx=>⟨x.1,x.2.1,x.2.2.1,x.2.2.2.1⟩) (λ_=>rfl) (λx hx=>⟨hx.2.1,hx.2.2.1,hx.2.2.2.1⟩)
def VU (x:tN):Prop:=(∀ c∈x.cases,Q9 c)/\D6 x.els
theorem aaM:Dec Tryz.prog T aJ 103 jG VU :=
 (Dec.struct (t:=103) hT (show (T 103).kind = .struct [101,3]from rfl) (lQ.cons (Dec.slice hT EG Z4 rfl (abJ rfl) Zw) (lQ.cons oC lQ.nil))).map (λx=>⟨x.1,x.2.1⟩) (λ_=>rfl) (λx hx=>⟨hx.1,hx.2.1⟩)
def VY (x:fV):Prop:=D6 x.params/\D6 x.regs/\(∀ c∈x.code,VW c) /\ ∀ s∈x.sels,VU s
theorem aaO:Dec Tryz.prog T aJ 100 jv VY :=
 (Dec.struct (t:=100) hT (show (T 100).kind = .struct [3,3,97,98]from rfl) (lQ.cons oC (lQ.cons oC (lQ.cons (Dec.slice hT nM aa8 rfl (abJ rfl) aaN) (lQ.cons (Dec.slice hT wP aa6 rfl (abJ rfl) aaM) lQ.nil))))).map (λx=>⟨x.1,x.2.1,x.2.2.1,x.2.2.2.1⟩) (λ_=>rfl) (λx hx=>⟨hx.1,hx.2.1,hx.2.2.1,hx.2.2.2.1⟩)
def J9 (x:aj):Prop:=(∀ v∈x.vars,D6 v.init)/\D6 x.locks/\(∀ c∈x.chans,D6 c) /\ ∀ f∈x.funcs,VY f
theorem Zt:Dec Tryz.prog T aJ 26 ak J9 :=
 (Dec.struct (t:=26) hT (show (T 26).kind = .struct [22,3,23,24]from rfl) (lQ.cons (Dec.slice hT LK aa5 rfl (abJ rfl) decVar) (lQ.cons oC (lQ.cons Zv (lQ.cons (Dec.slice hT lG aa9 rfl (abJ rfl) aaO) lQ.nil))))).map (λx=>⟨x.1,x.2.1,x.2.2.1,x.2.2.2.1⟩) (λ_=>rfl) (λx hx=>⟨hx.1,hx.2.1,hx.2.2.1,hx.2.2.2.1⟩)
theorem Yf {H:Type} {b:TypeId×Value->H} {W:World} {base:Nat} {v:Value} {d:DataW H} {p:List MemPlace} (h:DataW.Trod b Tryz.prog W 0 (λ_=>true) true 26 v d p) (a:Value.okWide Tryz.prog W .any base 26 v):∃ x:aj,J9 x/\fP T aJ (oK W) gU (ak x) v:=by
 obtain ⟨fuel,h⟩:=h;obtain ⟨x,c,hl,_⟩:=Zt H b W fuel _ d p h;obtain ⟨cs,rfl⟩:=Gx hT (show (T 26).kind = .struct [22,3,23,24]from rfl) a;exact ⟨x,c,.one ⟨(Value.agg cs).cells.toList,hl,by simp [eY,ak,bI,Value.cells]⟩⟩
theorem abg {W:World} {a b c:AV} {v0 e f:Value} (g:fP T aJ (oK W) gU a v0) (h:fP T aJ (oK W) gU b e) (j:fP T aJ (oK W) gU c f) :
 ∀ (i:Nat) (x:AV) (v:Value),[a,b,c][i]? = some x->(#[v0,e,f]:Array Value).toList[i]? = some v->fP T aJ (oK W) gU x v:=by
 intro i x v hx d
 match i with
 | 0=>simp at hx d;subst hx d;exact g
 | 1=>first | (simp at hx;done) | (simp at hx d;subst hx d;exact h)
 | 2=>first | (simp at hx;done) | (simp at hx d;subst hx d;exact j)
 | i+3=>simp at hx
theorem abN:Tryz.prog.underlying 43=some (.slice 122):=by kernel_rfl
def V7 (b:gq):Prop:=D6 b.steps/\D6 b.fuel/\D6 b.runs
theorem aaP:Dec Tryz.prog T aJ 28 cu V7 :=
 (Dec.struct (t:=28) hT (show (T 28).kind = .struct [3,3,3]from rfl) (lQ.cons oC (lQ.cons oC (lQ.cons oC lQ.nil)))).map (λx=>⟨x.1,x.2.1,x.2.2.1⟩) (λ_=>rfl) (λx hx=>⟨hx.1,hx.2.1,hx.2.2.1⟩)
theorem Zu:Dec Tryz.prog T aJ 122 bn (λx=>D6 x.go/\D6 x.alt) :=
 (Dec.struct (t:=122) hT (show (T 122).kind = .struct [3,3]from rfl) (lQ.cons oC (lQ.cons oC lQ.nil))).map (λx=>⟨x.1,x.2.1⟩) (λ_=>rfl) (λx hx=>⟨hx.1,hx.2.1⟩)
theorem QF {H:Type} {b:TypeId×Value->H} {W:World} {base:Nat} {v:Value} {d:DataW H} {p:List MemPlace} (h:DataW.Trod b Tryz.prog W 0 (λ_=>true) true 28 v d p) (a:Value.okWide Tryz.prog W .any base 28 v):∃ x:gq,V7 x/\fP T aJ (oK W) gU (cu x) v:=by
 obtain ⟨fuel,h⟩:=h;obtain ⟨x,c,hl,_⟩:=aaP H b W fuel _ d p h;obtain ⟨cs,rfl⟩:=Gx hT (show (T 28).kind = .struct [3,3,3]from rfl) a;exact ⟨x,c,.one ⟨(Value.agg cs).cells.toList,hl,by simp [eY,cu,bI,Value.cells]⟩⟩
theorem UN {H:Type} {b:TypeId×Value->H} {W:World} {base:Nat} {v:Value} {d:DataW H} {p:List MemPlace} (h:DataW.Trod b Tryz.prog W 0 (λ_=>true) true 43 v d p) (a:Value.okWide Tryz.prog W .any base 43 v):∃ l:List bF,(∀ x∈l,D6 x.go/\D6 x.alt)/\fP T aJ (oK W) gU (dn l) v:=by
 obtain ⟨fuel,h⟩:=h;obtain ⟨l,c,hl⟩:=UA hT eU abN (abJ rfl) Zu h a;exact ⟨l,c,hl⟩
abbrev lds:List (String×DataW Unit):=[("math/bits.deBruijn64tab",Go.Proofs.YtcfelhfcjdofoaaGreatDoor.Rows.laid_math_bits_deBruijn64tab)]
theorem aaE:(Go.Proofs.YtcfelhfcjdofoaaGreatDoor.Rows.laid_math_bits_deBruijn64tab:DataW Unit) = .agg (UR.map λn:Nat => .lit (.int .u8 (n:Int))):=rfl
theorem abM:Tryz.prog.underlying 381=some (.array 64 5):=by kernel_rfl
theorem uU8:Tryz.prog.underlying 5=some (.int .u8):=by kernel_rfl
theorem Xr {W:World} (h:laidMetH Tryz.prog lds W) (r:Nat) (i:r<64):W.cell? ⟨0,r,none⟩=some (.int .u8 (UR.getD r 0:Nat)):=by
 rw [MakeChecks.laidMetH_plain _ _ _ (by kernel_rfl)]at h;obtain ⟨l,⟨g,t,cs,fuel,p,q,hg,ht,j,hd,_,_⟩,_,_⟩:=h;obtain rfl:=Option.some.inj ((show Tryz.prog.globalNamed "math/bits.deBruijn64tab" = some 0 by kernel_rfl).symm.trans hg);obtain rfl:=Option.some.inj ((show (Tryz.prog.globals[0]?).map (·.type)=some 381 by kernel_rfl).symm.trans ht);obtain ⟨xs,m,_,ex,_,hl,b⟩:=DataW.trod_array abM hd;have c5:Tryz.prog.cellsOf 5=1:=by kernel_rfl
 have hE:=b r i;rw [c5,Nat.mul_one,aaF (by omega)]at hE;obtain ⟨z,c,d,_⟩:=DataW.trod_int uU8 hE;have hlen:UR.length=64:=rfl;have e:(xs.map (·.1))=UR.map λn:Nat=>(.lit (.int .u8 (n:Int)):DataW Unit):=(DataW.agg.inj (aaE.symm.trans (Prod.mk.inj ex).1)).symm;have a:(xs.map (·.1))[r]? = (UR.map λn:Nat=>(DataW.lit (.int .u8 (n:Int)):DataW Unit))[r]? := by rw [e]
 rw [acw,acw,aaF (by omega:r<xs.length),aaF (by omega:r<UR.length),d]at a;have k:z=(UR.getD r 0:Nat):=by simp only [acP,abb,DataW.lit.injEq,Lit.int.injEq,true_and]at a;rw [a,List.getD,aaF (by omega:r<UR.length)];rfl
 rw [World.var?_cell hg j r,<- k];have:cs.toList[r]? = some (.int .u8 z):=by(have f:((cs.toList.drop r).take 1)[0]? = some (.int .u8 z):=by rw [c];rfl);simpa using f
 simpa using this
def Tr.glbs:Tr->Bool
 | .e=>true
 | .n k x l r=>(Nat.beq k 0||x.glb.isEmpty)&&l.glbs&&r.glbs
theorem Tr.glb_get:∀ (x:Tr) (t:Nat),x.glbs=true->(x.get t).glb≠[]->t=0
 | .e,t,_,h=>absurd rfl h
 | .n k y l r,t,h,h2=>by simp only [Tr.glbs,aa3,acM]at h;cases b:Nat.beq t k with| true=>have e:=abe b;subst e;rcases h.1.1 with a | a;{exact abe a};exfalso;apply h2;simp only [Tr.get,b,aco];simpa using a| false=>(cases a:Nat.blt t k with| true=>exact l.glb_get t h.1.2 (λe=>h2 (by simp only [Tr.get,b,a,aco,aci];exact e))| false=>exact r.glb_get t h.2 (λe=>h2 (by simp only [Tr.get,b,a,aci];exact e)))
theorem Zk {W:World} (h:laidMetH Tryz.prog lds W):∀ (b o n:Nat),(T b).glb[o]? = some n->W.cell? ⟨b,o,none⟩=some (.int .u8 n):=by
 intro b o n hn;have hb:b=0:=Tr.glb_get tys b (by decide+kernel) (λe=>by
  have d:(T b).glb=[]:=e
  rw [d]at hn
  cases hn)
 subst hb;have a:UR[o]? = some n:=hn;obtain ⟨c,e⟩:=List.getElem?_eq_some_iff.1 a;have f:=Xr h o c;rw [f,<- e,List.getD,aaF c];rfl
end Go.Ab
