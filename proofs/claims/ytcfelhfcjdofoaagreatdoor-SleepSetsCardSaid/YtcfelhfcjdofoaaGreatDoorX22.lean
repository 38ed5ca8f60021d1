/- Part 23 of a proof of a statement about the given program: an abstract machine over the model, proved sound, and contracts of the functions that the statement reaches; the last part proves the statement, for every input, with no condition. -/
import Derived.Test.YtcfelhfcjdofoaaGreatDoorX19
import Derived.Test.YtcfelhfcjdofoaaGreatDoorX13
import Derived.LaidMore
import Derived.Lay
import Derived.OpenShut
import Derived.ProofKit
import Derived.SevenTiedAt
import Derived.Stop.Joined
import Derived.Test.YtcfelhfcjdofoaaGreatDoorCards
import Derived.Test.YtcfelhfcjdofoaaGreatDoorTie
import Derived.Test.YtcfelhfcjdofoaaGreatDoorRows
set_option autoImplicit false
set_option linter.unusedSimpArgs false
set_option linter.unusedVariables false
set_option maxRecDepth 20000
namespace Go.Ab
open Go.Proofs Go.ChangeShapes Go.WideShapes Go.ChangeAt Go.RowKit
theorem aa8:ownKnob Tryz.prog.godebug=none:=by kernel_rfl
theorem Zk:laidOutB Tryz.prog=true:=by kernel_rfl
theorem ac2:Tryz.prog.underlying 2=some (.int .i64):=by kernel_rfl
theorem ac1:Tryz.prog.underlying 3=some (.int .i64):=by kernel_rfl
theorem aaM:Tryz.prog.underlying 4=some .bool:=by kernel_rfl
theorem uOp:Tryz.prog.underlying 118=some (.int .i64):=by kernel_rfl
theorem acf:Tryz.prog.underlying 23=some (.slice 3):=by kernel_rfl
theorem acd:Tryz.prog.underlying 22=some (.slice 116):=by kernel_rfl
theorem ach:Tryz.prog.underlying 24=some (.slice 100):=by kernel_rfl
theorem acg:Tryz.prog.underlying 97=some (.slice 120):=by kernel_rfl
theorem ace:Tryz.prog.underlying 98=some (.slice 103):=by kernel_rfl
theorem aa5:Tryz.prog.underlying 101=some (.slice 215):=by kernel_rfl
def Ee (n:Int):Prop:=IntKind.i64.min<=n/\n<=IntKind.i64.max
theorem oK:Dec Tryz.prog T aI 3 (λn:Int => .int n) Ee:=Dec.int ac1 rfl
theorem YL:Dec Tryz.prog T aI 2 (λn:Int => .int n) Ee:=Dec.int ac2 rfl
theorem acJ:Dec Tryz.prog T aI 118 (λn:Int => .int n) Ee:=Dec.int uOp rfl
theorem TN:Dec Tryz.prog T aI 4 (λb:Bool => .bool b) (λ_=>True):=Dec.bool aaM rfl
theorem aaz:Dec Tryz.prog T aI 23 (λl:List Int=>ints false l) (λl => ∀ n∈l,Ee n):=(Dec.slice hT 0 acf rfl (ab6 rfl) oK).map (λl=>l) (λ_=>rfl) (λ_ h=>h)
theorem decVar:Dec Tryz.prog T aI 116 LX (λv=>Ee v.init) :=
 (Dec.struct (t:=116) hT (show (T 116).kind = .struct [4,2]from rfl) (lW.cons TN (lW.cons YL lW.nil))).map (λx=>⟨x.1,x.2.1⟩) (λ_=>rfl) (λx hx=>hx.2.1)
def Xd (x:iG):Prop:=Ee x.op/\Ee x.a/\Ee x.b/\Ee x.c/\Ee x.n
theorem abT:Dec Tryz.prog T aI 120 aU Xd :=
 (Dec.struct (t:=120) hT (show (T 120).kind = .struct [118,3,3,3,2]from rfl) (lW.cons acJ (lW.cons oK (lW.cons oK (lW.cons oK (lW.cons YL lW.nil)))))).map (λx=>⟨x.1,x.2.1,x.2.2.1,x.2.2.2.1,x.2.2.2.2.1⟩) (λ_=>rfl) (λx hx=>⟨hx.1,hx.2.1,hx.2.2.1,hx.2.2.2.1,hx.2.2.2.2.1⟩)
def Sz (x:zu):Prop:=Ee x.chan/\Ee x.reg/\Ee x.to
theorem aaA:Dec Tryz.prog T aI 215 qo Sz :=
 (Dec.struct (t:=215) hT (show (T 215).kind = .struct [4,3,3,3]from rfl) (lW.cons TN (lW.cons oK (lW.cons oK (lW.cons oK lW.nil))))).map (λx=>⟨x.1,x.2.1,x.2.2.1,x.2.2.2.1⟩) (λ_=>rfl) (λx hx=>⟨hx.2.1,hx.2.2.1,hx.2.2.2.1⟩)
def Xc (x:uF):Prop:=(∀ c∈x.cases,Sz c)/\Ee x.els
theorem abS:Dec Tryz.prog T aI 103 jK Xc :=
 (Dec.struct (t:=103) hT (show (T 103).kind = .struct [101,3]from rfl) (lW.cons (Dec.slice hT EP aa5 rfl (ab6 rfl) aaA) (lW.cons oK lW.nil))).map (λx=>⟨x.1,x.2.1⟩) (λ_=>rfl) (λx hx=>⟨hx.1,hx.2.1⟩)
def Xe (x:fZ):Prop:=Ee x.params/\Ee x.regs/\(∀ c∈x.code,Xd c) /\ ∀ s∈x.sels,Xc s
theorem abU:Dec Tryz.prog T aI 100 jA Xe :=
 (Dec.struct (t:=100) hT (show (T 100).kind = .struct [3,3,97,98]from rfl) (lW.cons oK (lW.cons oK (lW.cons (Dec.slice hT nR acg rfl (ab6 rfl) abT) (lW.cons (Dec.slice hT xw ace rfl (ab6 rfl) abS) lW.nil))))).map (λx=>⟨x.1,x.2.1,x.2.2.1,x.2.2.2.1⟩) (λ_=>rfl) (λx hx=>⟨hx.1,hx.2.1,hx.2.2.1,hx.2.2.2.1⟩)
def KN (x:aj):Prop:=(∀ v∈x.vars,Ee v.init)/\Ee x.locks/\(∀ c∈x.chans,Ee c) /\ ∀ f∈x.funcs,Xe f
theorem aax:Dec Tryz.prog T aI 26 ak KN :=
 (Dec.struct (t:=26) hT (show (T 26).kind = .struct [22,3,23,24]from rfl) (lW.cons (Dec.slice hT MR acd rfl (ab6 rfl) decVar) (lW.cons oK (lW.cons aaz (lW.cons (Dec.slice hT lI ach rfl (ab6 rfl) abU) lW.nil))))).map (λx=>⟨x.1,x.2.1,x.2.2.1,x.2.2.2.1⟩) (λ_=>rfl) (λx hx=>⟨hx.1,hx.2.1,hx.2.2.1,hx.2.2.2.1⟩)
theorem Y4 {H:Type} {b:TypeId×Value->H} {W:World} {base:Nat} {v:Value} {d:DataW H} {p:List MemPlace} (h:DataW.Trod b Tryz.prog W 0 (λ_=>true) true 26 v d p) (a:Value.okWide Tryz.prog W .any base 26 v):∃ x:aj,KN x/\fQ T aI (oQ W) gU (ak x) v:=by
 obtain ⟨fuel,h⟩:=h;obtain ⟨x,c,hl,_⟩:=aax H b W fuel _ d p h;obtain ⟨cs,rfl⟩:=GR hT (show (T 26).kind = .struct [22,3,23,24]from rfl) a;exact ⟨x,c,.one ⟨(Value.agg cs).cells.toList,hl,by simp [fC,ak,bI,Value.cells]⟩⟩
theorem aco {W:World} {a b c:AV} {v0 e f:Value} (g:fQ T aI (oQ W) gU a v0) (h:fQ T aI (oQ W) gU b e) (j:fQ T aI (oQ W) gU c f) :
 ∀ (i:Nat) (x:AV) (v:Value),[a,b,c][i]? = some x->(#[v0,e,f]:Array Value).toList[i]? = some v->fQ T aI (oQ W) gU x v:=by
 intro i x v hx d
 match i with
 | 0=>simp at hx d;subst hx d;exact g
 | 1=>first | (simp at hx;done) | (simp at hx d;subst hx d;exact h)
 | 2=>first | (simp at hx;done) | (simp at hx d;subst hx d;exact j)
 | i+3=>simp at hx
theorem ac0:Tryz.prog.underlying 43=some (.slice 122):=by kernel_rfl
def Xg (b:fA):Prop:=Ee b.steps/\Ee b.fuel/\Ee b.runs
theorem abV:Dec Tryz.prog T aI 28 cZ Xg :=
 (Dec.struct (t:=28) hT (show (T 28).kind = .struct [3,3,3]from rfl) (lW.cons oK (lW.cons oK (lW.cons oK lW.nil)))).map (λx=>⟨x.1,x.2.1,x.2.2.1⟩) (λ_=>rfl) (λx hx=>⟨hx.1,hx.2.1,hx.2.2.1⟩)
theorem aay:Dec Tryz.prog T aI 122 aV (λx=>Ee x.go/\Ee x.alt) :=
 (Dec.struct (t:=122) hT (show (T 122).kind = .struct [3,3]from rfl) (lW.cons oK (lW.cons oK lW.nil))).map (λx=>⟨x.1,x.2.1⟩) (λ_=>rfl) (λx hx=>⟨hx.1,hx.2.1⟩)
theorem Ry {H:Type} {b:TypeId×Value->H} {W:World} {base:Nat} {v:Value} {d:DataW H} {p:List MemPlace} (h:DataW.Trod b Tryz.prog W 0 (λ_=>true) true 28 v d p) (a:Value.okWide Tryz.prog W .any base 28 v):∃ x:fA,Xg x/\fQ T aI (oQ W) gU (cZ x) v:=by
 obtain ⟨fuel,h⟩:=h;obtain ⟨x,c,hl,_⟩:=abV H b W fuel _ d p h;obtain ⟨cs,rfl⟩:=GR hT (show (T 28).kind = .struct [3,3,3]from rfl) a;exact ⟨x,c,.one ⟨(Value.agg cs).cells.toList,hl,by simp [fC,cZ,bI,Value.cells]⟩⟩
theorem VJ {H:Type} {b:TypeId×Value->H} {W:World} {base:Nat} {v:Value} {d:DataW H} {p:List MemPlace} (h:DataW.Trod b Tryz.prog W 0 (λ_=>true) true 43 v d p) (a:Value.okWide Tryz.prog W .any base 43 v):∃ l:List aQ,(∀ x∈l,Ee x.go/\Ee x.alt)/\fQ T aI (oQ W) gU (cu l) v:=by
 obtain ⟨fuel,h⟩:=h;obtain ⟨l,c,hl⟩:=Vx hT dF ac0 (ab6 rfl) aay h a;exact ⟨l,c,hl⟩
abbrev lds:List (String×DataW Unit):=[("math/bits.deBruijn64tab",Go.Proofs.YtcfelhfcjdofoaaGreatDoor.Rows.laid_math_bits_deBruijn64tab)]
theorem abH:(Go.Proofs.YtcfelhfcjdofoaaGreatDoor.Rows.laid_math_bits_deBruijn64tab:DataW Unit) = .agg (VO.map λn:Nat => .lit (.int .u8 (n:Int))):=rfl
theorem acZ:Tryz.prog.underlying 381=some (.array 64 5):=by kernel_rfl
theorem uU8:Tryz.prog.underlying 5=some (.int .u8):=by kernel_rfl
theorem Yh {W:World} (h:laidMetH Tryz.prog lds W) (r:Nat) (i:r<64):W.cell? ⟨0,r,none⟩=some (.int .u8 (VO.getD r 0:Nat)):=by
 rw [MakeChecks.laidMetH_plain _ _ _ (by kernel_rfl)]at h;obtain ⟨l,⟨g,t,cs,fuel,p,q,hg,ht,j,hd,_,_⟩,_,_⟩:=h;obtain rfl:=Option.some.inj ((show Tryz.prog.globalNamed "math/bits.deBruijn64tab" = some 0 by kernel_rfl).symm.trans hg);obtain rfl:=Option.some.inj ((show (Tryz.prog.globals[0]?).map (·.type)=some 381 by kernel_rfl).symm.trans ht);obtain ⟨xs,m,_,ex,_,hl,b⟩:=DataW.trod_array acZ hd;have c5:Tryz.prog.cellsOf 5=1:=by kernel_rfl
 have hE:=b r i;rw [c5,Nat.mul_one,aaT (by omega)]at hE;obtain ⟨z,c,d,_⟩:=DataW.trod_int uU8 hE;have hlen:VO.length=64:=rfl;have e:(xs.map (·.1))=VO.map λn:Nat=>(.lit (.int .u8 (n:Int)):DataW Unit):=(DataW.agg.inj (abH.symm.trans (Prod.mk.inj ex).1)).symm;have a:(xs.map (·.1))[r]? = (VO.map λn:Nat=>(DataW.lit (.int .u8 (n:Int)):DataW Unit))[r]? := by rw [e]
 rw [ady,ady,aaT (by omega:r<xs.length),aaT (by omega:r<VO.length),d]at a;have k:z=(VO.getD r 0:Nat):=by simp only [adU,abI,DataW.lit.injEq,Lit.int.injEq,true_and]at a;rw [a,List.getD,aaT (by omega:r<VO.length)];rfl
 rw [World.var?_cell hg j r,<- k];have:cs.toList[r]? = some (.int .u8 z):=by(have f:((cs.toList.drop r).take 1)[0]? = some (.int .u8 z):=by rw [c];rfl);simpa using f
 simpa using this
def Tr.glbs:Tr->Bool
 | .e=>true
 | .n k x l r=>(Nat.beq k 0||x.glb.isEmpty)&&l.glbs&&r.glbs
theorem Tr.glb_get:∀ (x:Tr) (t:Nat),x.glbs=true->(x.get t).glb≠[]->t=0
 | .e,t,_,h=>absurd rfl h
 | .n k y l r,t,h,h2=>by simp only [Tr.glbs,abh,adM]at h;cases b:Nat.beq t k with| true=>have e:=abM b;subst e;rcases h.1.1 with a | a;{exact abM a};exfalso;apply h2;simp only [Tr.get,b,adq];simpa using a| false=>(cases a:Nat.blt t k with| true=>exact l.glb_get t h.1.2 (λe=>h2 (by simp only [Tr.get,b,a,adq,ado];exact e))| false=>exact r.glb_get t h.2 (λe=>h2 (by simp only [Tr.get,b,a,ado];exact e)))
theorem aao {W:World} (h:laidMetH Tryz.prog lds W):∀ (b o n:Nat),(T b).glb[o]? = some n->W.cell? ⟨b,o,none⟩=some (.int .u8 n):=by
 intro b o n hn;have hb:b=0:=Tr.glb_get tys b (by decide+kernel) (λe=>by
  have d:(T b).glb=[]:=e
  rw [d]at hn
  cases hn)
 subst hb;have a:VO[o]? = some n:=hn;obtain ⟨c,e⟩:=List.getElem?_eq_some_iff.1 a;have f:=Yh h o c;rw [f,<- e,List.getD,aaT c];rfl
end Go.Ab
