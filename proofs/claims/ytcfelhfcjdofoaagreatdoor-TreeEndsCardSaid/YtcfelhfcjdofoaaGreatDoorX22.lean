/- Part 23 of a proof of a statement about the given program: an abstract machine over the model, proved sound, and contracts of the functions that the statement reaches; the last part proves the statement, for every input, with no condition. -/
import Derived.Test.YtcfelhfcjdofoaaGreatDoorX19
import Derived.Test.YtcfelhfcjdofoaaGreatDoorX13
import Derived.LaidMore
import Derived.Lay
import Derived.OpenShut
import Derived.ProofKit
import Derived.SevenTiedAt
import Derived.Stop.Joined
import Derived.Test.YtcfelhfcjdofoaaGreatDoorCards
import Derived.Test.YtcfelhfcjdofoaaGreatDoorTie
import Derived.Test.YtcfelhfcjdofoaaGreatDoorRows
set_option autoImplicit false
set_option linter.unusedSimpArgs false
set_option linter.unusedVariables false
set_option maxRecDepth 20000
namespace Go.Ab
open Go.Proofs Go.ChangeShapes Go.WideShapes Go.ChangeAt Go.RowKit
theorem aa7:ownKnob Tryz.prog.godebug=none:=by kernel_rfl
theorem Zh:laidOutB Tryz.prog=true:=by kernel_rfl
theorem ac1:Tryz.prog.underlying 2=some (.int .i64):=by kernel_rfl
theorem ac0:Tryz.prog.underlying 3=some (.int .i64):=by kernel_rfl
theorem aaG:Tryz.prog.underlying 4=some .bool:=by kernel_rfl
theorem uOp:Tryz.prog.underlying 118=some (.int .i64):=by kernel_rfl
theorem acg:Tryz.prog.underlying 23=some (.slice 3):=by kernel_rfl
theorem ace:Tryz.prog.underlying 22=some (.slice 116):=by kernel_rfl
theorem aci:Tryz.prog.underlying 24=some (.slice 100):=by kernel_rfl
theorem ach:Tryz.prog.underlying 97=some (.slice 120):=by kernel_rfl
theorem acf:Tryz.prog.underlying 98=some (.slice 103):=by kernel_rfl
theorem aa4:Tryz.prog.underlying 101=some (.slice 215):=by kernel_rfl
def I9 (n:Int):Prop:=IntKind.i64.min<=n/\n<=IntKind.i64.max
theorem qp:Dec Tryz.prog T aK 3 (λn:Int => .int n) I9:=Dec.int ac0 rfl
theorem YQ:Dec Tryz.prog T aK 2 (λn:Int => .int n) I9:=Dec.int ac1 rfl
theorem acL:Dec Tryz.prog T aK 118 (λn:Int => .int n) I9:=Dec.int uOp rfl
theorem TL:Dec Tryz.prog T aK 4 (λb:Bool => .bool b) (λ_=>True):=Dec.bool aaG rfl
theorem aav:Dec Tryz.prog T aK 23 (λl:List Int=>ints false l) (λl => ∀ n∈l,I9 n):=(Dec.slice hT 0 acg rfl (abX rfl) qp).map (λl=>l) (λ_=>rfl) (λ_ h=>h)
theorem decVar:Dec Tryz.prog T aK 116 LV (λv=>I9 v.init) :=
 (Dec.struct (t:=116) hT (show (T 116).kind = .struct [4,2]from rfl) (mX.cons TL (mX.cons YQ mX.nil))).map (λx=>⟨x.1,x.2.1⟩) (λ_=>rfl) (λx hx=>hx.2.1)
def Xg (x:iH):Prop:=I9 x.op/\I9 x.a/\I9 x.b/\I9 x.c/\I9 x.n
theorem abS:Dec Tryz.prog T aK 120 aT Xg :=
 (Dec.struct (t:=120) hT (show (T 120).kind = .struct [118,3,3,3,2]from rfl) (mX.cons acL (mX.cons qp (mX.cons qp (mX.cons qp (mX.cons YQ mX.nil)))))).map (λx=>⟨x.1,x.2.1,x.2.2.1,x.2.2.2.1,x.2.2.2.2.1⟩) (λ_=>rfl) (λx hx=>⟨hx.1,hx.2.1,hx.2.2.1,hx.2.2.2.1,hx.2.2.2.2.1⟩)
def RY (x:zH):Prop:=I9 x.chan/\I9 x.reg/\I9 x.to
theorem aaw:Dec Tryz.prog T aK 215 qo RY :=
 (Dec.struct (t:=215) hT (show (T 215).kind = .struct [4,3,3,3]from rfl) (mX.cons TL (mX.cons qp (mX.cons qp (mX.cons qp mX.nil))))).map (λx=>⟨x.1,x.2.1,x.2.2.1,x.2.2.2.1⟩) (λ_=>rfl) (λx hx=>⟨hx.2.1,hx.2.2.1,hx.2.2.2.1⟩)
def Xf (x:uq):Prop:=(∀ c∈x.cases,RY c)/\I9 x.els
theorem abR:Dec Tryz.prog T aK 103 jP Xf :=
 (Dec.struct (t:=103) hT (show (T 103).kind = .struct [101,3]from rfl) (mX.cons (Dec.slice hT EU aa4 rfl (abX rfl) aaw) (mX.cons qp mX.nil))).map (λx=>⟨x.1,x.2.1⟩) (λ_=>rfl) (λx hx=>⟨hx.1,hx.2.1⟩)
def Xh (x:gu):Prop:=I9 x.params/\I9 x.regs/\(∀ c∈x.code,Xg c) /\ ∀ s∈x.sels,Xf s
theorem abT:Dec Tryz.prog T aK 100 jC Xh :=
 (Dec.struct (t:=100) hT (show (T 100).kind = .struct [3,3,97,98]from rfl) (mX.cons qp (mX.cons qp (mX.cons (Dec.slice hT nS ach rfl (abX rfl) abS) (mX.cons (Dec.slice hT xA acf rfl (abX rfl) abR) mX.nil))))).map (λx=>⟨x.1,x.2.1,x.2.2.1,x.2.2.2.1⟩) (λ_=>rfl) (λx hx=>⟨hx.1,hx.2.1,hx.2.2.1,hx.2.2.2.1⟩)
def KN (x:aj):Prop:=(∀ v∈x.vars,I9 v.init)/\I9 x.locks/\(∀ c∈x.chans,I9 c) /\ ∀ f∈x.funcs,Xh f
theorem aau:Dec Tryz.prog T aK 26 ak KN :=
 (Dec.struct (t:=26) hT (show (T 26).kind = .struct [22,3,23,24]from rfl) (mX.cons (Dec.slice hT MH ace rfl (abX rfl) decVar) (mX.cons qp (mX.cons aav (mX.cons (Dec.slice hT lK aci rfl (abX rfl) abT) mX.nil))))).map (λx=>⟨x.1,x.2.1,x.2.2.1,x.2.2.2.1⟩) (λ_=>rfl) (λx hx=>⟨hx.1,hx.2.1,hx.2.2.1,hx.2.2.2.1⟩)
theorem Y5 {H:Type} {b:TypeId×Value->H} {W:World} {base:Nat} {v:Value} {d:DataW H} {p:List MemPlace} (h:DataW.Trod b Tryz.prog W 0 (λ_=>true) true 26 v d p) (a:Value.okWide Tryz.prog W .any base 26 v):∃ x:aj,KN x/\gB T aK (rQ W) iG (ak x) v:=by
 obtain ⟨fuel,h⟩:=h;obtain ⟨x,c,hl,_⟩:=aau H b W fuel _ d p h;obtain ⟨cs,rfl⟩:=Hl hT (show (T 26).kind = .struct [22,3,23,24]from rfl) a;exact ⟨x,c,.one ⟨(Value.agg cs).cells.toList,hl,by simp [fF,ak,bI,Value.cells]⟩⟩
theorem acs {W:World} {a b:AV} {v0 d:Value} (e:gB T aK (rQ W) iG a v0) (f:gB T aK (rQ W) iG b d) :
 ∀ (i:Nat) (x:AV) (v:Value),[a,b][i]? = some x->(#[v0,d]:Array Value).toList[i]? = some v->gB T aK (rQ W) iG x v:=by
 intro i x v hx c
 match i with
 | 0=>simp at hx c;subst hx c;exact e
 | 1=>first | (simp at hx;done) | (simp at hx c;subst hx c;exact f)
 | 2=>first | (simp at hx;done) | (simp at hx c;subst hx c;exact h2)
 | i+3=>simp at hx
def Xj (b:dD):Prop:=I9 b.steps/\I9 b.fuel/\I9 b.runs
theorem abU:Dec Tryz.prog T aK 28 cu Xj :=
 (Dec.struct (t:=28) hT (show (T 28).kind = .struct [3,3,3]from rfl) (mX.cons qp (mX.cons qp (mX.cons qp mX.nil)))).map (λx=>⟨x.1,x.2.1,x.2.2.1⟩) (λ_=>rfl) (λx hx=>⟨hx.1,hx.2.1,hx.2.2.1⟩)
theorem Ri {H:Type} {b:TypeId×Value->H} {W:World} {base:Nat} {v:Value} {d:DataW H} {p:List MemPlace} (h:DataW.Trod b Tryz.prog W 0 (λ_=>true) true 28 v d p) (a:Value.okWide Tryz.prog W .any base 28 v):∃ x:dD,Xj x/\gB T aK (rQ W) iG (cu x) v:=by
 obtain ⟨fuel,h⟩:=h;obtain ⟨x,c,hl,_⟩:=abU H b W fuel _ d p h;obtain ⟨cs,rfl⟩:=Hl hT (show (T 28).kind = .struct [3,3,3]from rfl) a;exact ⟨x,c,.one ⟨(Value.agg cs).cells.toList,hl,by simp [fF,cu,bI,Value.cells]⟩⟩
abbrev lds:List (String×DataW Unit):=[("math/bits.deBruijn64tab",Go.Proofs.YtcfelhfcjdofoaaGreatDoor.Rows.laid_math_bits_deBruijn64tab)]
theorem abI:(Go.Proofs.YtcfelhfcjdofoaaGreatDoor.Rows.laid_math_bits_deBruijn64tab:DataW Unit) = .agg (VL.map λn:Nat => .lit (.int .u8 (n:Int))):=rfl
theorem acZ:Tryz.prog.underlying 381=some (.array 64 5):=by kernel_rfl
theorem uU8:Tryz.prog.underlying 5=some (.int .u8):=by kernel_rfl
theorem Yk {W:World} (h:laidMetH Tryz.prog lds W) (r:Nat) (i:r<64):W.cell? ⟨0,r,none⟩=some (.int .u8 (VL.getD r 0:Nat)):=by
 rw [MakeChecks.laidMetH_plain _ _ _ (by kernel_rfl)]at h;obtain ⟨l,⟨g,t,cs,fuel,p,q,hg,ht,j,hd,_,_⟩,_,_⟩:=h;obtain rfl:=Option.some.inj ((show Tryz.prog.globalNamed "math/bits.deBruijn64tab" = some 0 by kernel_rfl).symm.trans hg);obtain rfl:=Option.some.inj ((show (Tryz.prog.globals[0]?).map (·.type)=some 381 by kernel_rfl).symm.trans ht);obtain ⟨xs,m,_,ex,_,hl,b⟩:=DataW.trod_array acZ hd;have c5:Tryz.prog.cellsOf 5=1:=by kernel_rfl
 have hE:=b r i;rw [c5,Nat.mul_one,aaR (by omega)]at hE;obtain ⟨z,c,d,_⟩:=DataW.trod_int uU8 hE;have hlen:VL.length=64:=rfl;have e:(xs.map (·.1))=VL.map λn:Nat=>(.lit (.int .u8 (n:Int)):DataW Unit):=(DataW.agg.inj (abI.symm.trans (Prod.mk.inj ex).1)).symm;have a:(xs.map (·.1))[r]? = (VL.map λn:Nat=>(DataW.lit (.int .u8 (n:Int)):DataW Unit))[r]? := by rw [e]
 rw [ady,ady,aaR (by omega:r<xs.length),aaR (by omega:r<VL.length),d]at a;have k:z=(VL.getD r 0:Nat):=by simp only [adU,abf,DataW.lit.injEq,Lit.int.injEq,true_and]at a;rw [a,List.getD,aaR (by omega:r<VL.length)];rfl
 rw [World.var?_cell hg j r,<- k];have:cs.toList[r]? = some (.int .u8 z):=by(have f:((cs.toList.drop r).take 1)[0]? = some (.int .u8 z):=by rw [c];rfl);simpa using f
 simpa using this
def Tr.glbs:Tr->Bool
 | .e=>true
 | .n k x l r=>(Nat.beq k 0||x.glb.isEmpty)&&l.glbs&&r.glbs
theorem Tr.glb_get:∀ (x:Tr) (t:Nat),x.glbs=true->(x.get t).glb≠[]->t=0
 | .e,t,_,h=>absurd rfl h
 | .n k y l r,t,h,h2=>by simp only [Tr.glbs,abe,adM]at h;cases b:Nat.beq t k with| true=>have e:=abJ b;subst e;rcases h.1.1 with a | a;{exact abJ a};exfalso;apply h2;simp only [Tr.get,b,adv];simpa using a| false=>(cases a:Nat.blt t k with| true=>exact l.glb_get t h.1.2 (λe=>h2 (by simp only [Tr.get,b,a,adv,ads];exact e))| false=>exact r.glb_get t h.2 (λe=>h2 (by simp only [Tr.get,b,a,ads];exact e)))
theorem aai {W:World} (h:laidMetH Tryz.prog lds W):∀ (b o n:Nat),(T b).glb[o]? = some n->W.cell? ⟨b,o,none⟩=some (.int .u8 n):=by
 intro b o n hn;have hb:b=0:=Tr.glb_get tys b (by decide+kernel) (λe=>by
  have d:(T b).glb=[]:=e
  rw [d]at hn
  cases hn)
 subst hb;have a:VL[o]? = some n:=hn;obtain ⟨c,e⟩:=List.getElem?_eq_some_iff.1 a;have f:=Yk h o c;rw [f,<- e,List.getD,aaR c];rfl
end Go.Ab
