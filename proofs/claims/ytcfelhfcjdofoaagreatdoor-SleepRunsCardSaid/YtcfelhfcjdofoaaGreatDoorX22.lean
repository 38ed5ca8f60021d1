/- Part 23 of a proof of a statement about the given program: an abstract machine over the model, proved sound, and contracts of the functions that the statement reaches; the last part proves the statement, for every input, with no condition. -/
import Derived.Test.YtcfelhfcjdofoaaGreatDoorX19
import Derived.Test.YtcfelhfcjdofoaaGreatDoorX12
import Derived.Test.YtcfelhfcjdofoaaGreatDoorX13
import Derived.LaidMore
import Derived.Lay
import Derived.OpenShut
import Derived.ProofKit
import Derived.SevenTiedAt
import Derived.Stop.Joined
import Derived.Test.YtcfelhfcjdofoaaGreatDoorCards
import Derived.Test.YtcfelhfcjdofoaaGreatDoorTie
import Derived.Test.YtcfelhfcjdofoaaGreatDoorRows
set_option autoImplicit false
set_option linter.unusedSimpArgs false
set_option linter.unusedVariables false
set_option maxRecDepth 20000
namespace Go.Ab
open Go.Proofs Go.ChangeShapes Go.WideShapes Go.ChangeAt Go.RowKit
theorem abv:ownKnob Tryz.prog.godebug=none:=by kernel_rfl
theorem ZE:laidOutB Tryz.prog=true:=by kernel_rfl
theorem adf:Tryz.prog.underlying 2=some (.int .i64):=by kernel_rfl
theorem ade:Tryz.prog.underlying 3=some (.int .i64):=by kernel_rfl
theorem aa3:Tryz.prog.underlying 4=some .bool:=by kernel_rfl
theorem uOp:Tryz.prog.underlying 118=some (.int .i64):=by kernel_rfl
theorem acy:Tryz.prog.underlying 23=some (.slice 3):=by kernel_rfl
theorem acv:Tryz.prog.underlying 22=some (.slice 116):=by kernel_rfl
theorem acA:Tryz.prog.underlying 24=some (.slice 100):=by kernel_rfl
theorem acz:Tryz.prog.underlying 97=some (.slice 120):=by kernel_rfl
theorem acw:Tryz.prog.underlying 98=some (.slice 103):=by kernel_rfl
theorem abr:Tryz.prog.underlying 101=some (.slice 215):=by kernel_rfl
def Jb (n:Int):Prop:=IntKind.i64.min<=n/\n<=IntKind.i64.max
theorem qp:Dec Tryz.prog T aH 3 (λn:Int => .int n) Jb:=Dec.int ade rfl
theorem Y9:Dec Tryz.prog T aH 2 (λn:Int => .int n) Jb:=Dec.int adf rfl
theorem acW:Dec Tryz.prog T aH 118 (λn:Int => .int n) Jb:=Dec.int uOp rfl
theorem Ub:Dec Tryz.prog T aH 4 (λb:Bool => .bool b) (λ_=>True):=Dec.bool aa3 rfl
theorem decVar:Dec Tryz.prog T aH 116 Ez (λv=>Jb v.init) :=
 (Dec.struct (t:=116) hT (show (T 116).kind = .struct [4,2]from rfl) (sQ.cons Ub (sQ.cons Y9 sQ.nil))).map (λx=>⟨x.1,x.2.1⟩) (λ_=>rfl) (λx hx=>hx.2.1)
def Xz (x:iG):Prop:=Jb x.op/\Jb x.a/\Jb x.b/\Jb x.c/\Jb x.n
theorem ab8:Dec Tryz.prog T aH 120 aQ Xz :=
 (Dec.struct (t:=120) hT (show (T 120).kind = .struct [118,3,3,3,2]from rfl) (sQ.cons acW (sQ.cons qp (sQ.cons qp (sQ.cons qp (sQ.cons Y9 sQ.nil)))))).map (λx=>⟨x.1,x.2.1,x.2.2.1,x.2.2.2.1,x.2.2.2.2.1⟩) (λ_=>rfl) (λx hx=>⟨hx.1,hx.2.1,hx.2.2.1,hx.2.2.2.1,hx.2.2.2.2.1⟩)
def SV (x:zK):Prop:=Jb x.chan/\Jb x.reg/\Jb x.to
theorem aaP:Dec Tryz.prog T aH 215 pz SV :=
 (Dec.struct (t:=215) hT (show (T 215).kind = .struct [4,3,3,3]from rfl) (sQ.cons Ub (sQ.cons qp (sQ.cons qp (sQ.cons qp sQ.nil))))).map (λx=>⟨x.1,x.2.1,x.2.2.1,x.2.2.2.1⟩) (λ_=>rfl) (λx hx=>⟨hx.2.1,hx.2.2.1,hx.2.2.2.1⟩)
def Xy (x:rZ):Prop:=(∀ c∈x.cases,SV c)/\Jb x.els
def XA (x:gq):Prop:=Jb x.params/\Jb x.regs/\(∀ c∈x.code,Xz c) /\ ∀ s∈x.sels,Xy s
def LC (x:ak):Prop:=(∀ v∈x.vars,Jb v.init)/\Jb x.locks/\(∀ c∈x.chans,Jb c) /\ ∀ f∈x.funcs,XA f
theorem acE {W:World} {a b:AV} {v0 d:Value} (e:gG T aH (oV W) gX a v0) (f:gG T aH (oV W) gX b d) :
 ∀ (i:Nat) (x:AV) (v:Value),[a,b][i]? = some x->(#[v0,d]:Array Value).toList[i]? = some v->gG T aH (oV W) gX x v:=by
 intro i x v hx c
 match i with
 | 0=>simp at hx c;subst hx c;exact e
 | 1=>first | (simp at hx;done) | (simp at hx c;subst hx c;exact f)
 | 2=>first | (simp at hx;done) | (simp at hx c;subst hx c;exact h2)
 | i+3=>simp at hx
def XC (b:dO):Prop:=Jb b.steps/\Jb b.fuel/\Jb b.runs
theorem ab9:Dec Tryz.prog T aH 28 bY XC :=
 (Dec.struct (t:=28) hT (show (T 28).kind = .struct [3,3,3]from rfl) (sQ.cons qp (sQ.cons qp (sQ.cons qp sQ.nil)))).map (λx=>⟨x.1,x.2.1,x.2.2.1⟩) (λ_=>rfl) (λx hx=>⟨hx.1,hx.2.1,hx.2.2.1⟩)
theorem RQ {H:Type} {b:TypeId×Value->H} {W:World} {base:Nat} {v:Value} {d:DataW H} {p:List MemPlace} (h:DataW.Trod b Tryz.prog W 0 (λ_=>true) true 28 v d p) (a:Value.okWide Tryz.prog W .any base 28 v):∃ x:dO,XC x/\gG T aH (oV W) gX (bY x) v:=by
 obtain ⟨fuel,h⟩:=h;obtain ⟨x,c,hl,_⟩:=ab9 H b W fuel _ d p h;obtain ⟨cs,rfl⟩:=Hq hT (show (T 28).kind = .struct [3,3,3]from rfl) a;exact ⟨x,c,.one ⟨(Value.agg cs).cells.toList,hl,by simp [fH,bY,bC,Value.cells]⟩⟩
abbrev lds:List (String×DataW Unit):=[("math/bits.deBruijn64tab",Go.Proofs.YtcfelhfcjdofoaaGreatDoor.Rows.laid_math_bits_deBruijn64tab)]
theorem abY:(Go.Proofs.YtcfelhfcjdofoaaGreatDoor.Rows.laid_math_bits_deBruijn64tab:DataW Unit) = .agg (Wu.map λn:Nat => .lit (.int .u8 (n:Int))):=rfl
theorem adb:Tryz.prog.underlying 381=some (.array 64 5):=by kernel_rfl
theorem uU8:Tryz.prog.underlying 5=some (.int .u8):=by kernel_rfl
theorem YB {W:World} (h:laidMetH Tryz.prog lds W) (r:Nat) (i:r<64):W.cell? ⟨0,r,none⟩=some (.int .u8 (Wu.getD r 0:Nat)):=by
 rw [MakeChecks.laidMetH_plain _ _ _ (by kernel_rfl)]at h;obtain ⟨l,⟨g,t,cs,fuel,p,q,hg,ht,j,hd,_,_⟩,_,_⟩:=h;obtain rfl:=Option.some.inj ((show Tryz.prog.globalNamed "math/bits.deBruijn64tab" = some 0 by kernel_rfl).symm.trans hg);obtain rfl:=Option.some.inj ((show (Tryz.prog.globals[0]?).map (·.type)=some 381 by kernel_rfl).symm.trans ht);obtain ⟨xs,m,_,ex,_,hl,b⟩:=DataW.trod_array adb hd;have c5:Tryz.prog.cellsOf 5=1:=by kernel_rfl
 have hE:=b r i;rw [c5,Nat.mul_one,Y0 (by omega)]at hE;obtain ⟨z,c,d,_⟩:=DataW.trod_int uU8 hE;have hlen:Wu.length=64:=rfl;have e:(xs.map (·.1))=Wu.map λn:Nat=>(.lit (.int .u8 (n:Int)):DataW Unit):=(DataW.agg.inj (abY.symm.trans (Prod.mk.inj ex).1)).symm;have a:(xs.map (·.1))[r]? = (Wu.map λn:Nat=>(DataW.lit (.int .u8 (n:Int)):DataW Unit))[r]? := by rw [e]
 rw [adH,adH,Y0 (by omega:r<xs.length),Y0 (by omega:r<Wu.length),d]at a;have k:z=(Wu.getD r 0:Nat):=by simp only [aea,abg,DataW.lit.injEq,Lit.int.injEq,true_and]at a;rw [a,List.getD,Y0 (by omega:r<Wu.length)];rfl
 rw [World.var?_cell hg j r,<- k];have:cs.toList[r]? = some (.int .u8 z):=by(have f:((cs.toList.drop r).take 1)[0]? = some (.int .u8 z):=by rw [c];rfl);simpa using f
 simpa using this
def Tr.glbs:Tr->Bool
 | .e=>true
 | .n k x l r=>(Nat.beq k 0||x.glb.isEmpty)&&l.glbs&&r.glbs
theorem Tr.glb_get:∀ (x:Tr) (t:Nat),x.glbs=true->(x.get t).glb≠[]->t=0
 | .e,t,_,h=>absurd rfl h
 | .n k y l r,t,h,h2=>by simp only [Tr.glbs,abf,adP]at h;cases b:Nat.beq t k with| true=>have e:=abA b;subst e;rcases h.1.1 with a | a;{exact abA a};exfalso;apply h2;simp only [Tr.get,b,adD];simpa using a| false=>(cases a:Nat.blt t k with| true=>exact l.glb_get t h.1.2 (λe=>h2 (by simp only [Tr.get,b,a,adD,adB];exact e))| false=>exact r.glb_get t h.2 (λe=>h2 (by simp only [Tr.get,b,a,adB];exact e)))
theorem aaF {W:World} (h:laidMetH Tryz.prog lds W):∀ (b o n:Nat),(T b).glb[o]? = some n->W.cell? ⟨b,o,none⟩=some (.int .u8 n):=by
 intro b o n hn;have hb:b=0:=Tr.glb_get tys b (by decide+kernel) (λe=>by
  have d:(T b).glb=[]:=e
  rw [d]at hn
  cases hn)
 subst hb;have a:Wu[o]? = some n:=hn;obtain ⟨c,e⟩:=List.getElem?_eq_some_iff.1 a;have f:=YB h o c;rw [f,<- e,List.getD,Y0 c];rfl
end Go.Ab
