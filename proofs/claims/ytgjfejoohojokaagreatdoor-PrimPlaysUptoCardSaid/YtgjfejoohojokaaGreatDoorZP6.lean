/- Lemmas for RPP: functions of the program as predicate transformers, and their contracts. -/
import Derived.Test.YtgjfejoohojokaaGreatDoorZP5
import Derived.ProofKit
import Derived.Test.YtgjfejoohojokaaGreatDoorCards
import Derived.Test.YtgjfejoohojokaaGreatDoorTie
import Derived.LaidLaws
import Derived.Handed
import Derived.Lib.LaidU8
import Derived.Lib.LaidTab
import Derived.Deep.Strs
import Derived.WideKeyArgs
import Derived.SizedLaws
set_option linter.all false
set_option maxRecDepth 100000
set_option maxHeartbeats 4000000
namespace Kw
open Go
theorem xi {W W':World}{may:MemPlace->Prop} (hf:Fr [] W.heap W'.heap) (ho:W'.os=W.os) (hout:W'.output=W.output):W.keptBut W' may:=by
 refine ⟨ho,hout,fun i hi=>?_⟩;rw [hf.2 i hi (by simp)];cases h:W.heap[i]? with
 | none=>trivial
 | some o=>cases o <;> first | exact ⟨rfl,rfl,rfl,fun _ _=>rfl⟩ | exact .inr ⟨rfl,rfl⟩ | rfl
theorem post_law {H:Type}{enc:TypeId × Value->H}{P:Program}{f:Func}{s:ChangeSpec}{apart fresh handsOn:Bool}{W W':World}{args:Array Value}{v:Value}{ds gs:List (DataW H)}{before pa pv:List MemPlace}
  (hW:DataW.Whole enc P f.params.toList s.vars apart W args.toList ds gs before)
  (a2o:∀ (b:Nat) (sp:Nat->Bool) (hd:Bool),DataW.TrodAll enc P W' b sp hd f.resultTypes.toList (v.resultList f.resultTypes.size) (s.fn H (ds++gs)).results [])
  (X0:∀ sp:Nat->Bool,(∀ p∈before,sp p.block=true)->DataW.TrodAll enc P W' 0 sp true f.params.toList args.toList (s.fn H (ds++gs)).args pa)
  (X1:∀ sp:Nat->Bool,(∀ p∈before,sp p.block=true)->DataW.TrodVars enc P W' sp s.vars (s.fn H (ds++gs)).vars pv)
  (hf:Fr [] W.heap W'.heap) (ho:W'.os=W.os) (hout:W'.output=W.output):s.post enc P f apart fresh handsOn false W args v W' :=
 ⟨ds,gs,before,[],pa,pv,hW,a2o _ _ _,X0 _ (fun p hp=>by simpa using hW.lt p hp),X1 _ (fun p hp=>by simpa using hW.lt p hp),xi hf ho hout,fun h=>by cases h⟩
end Kw
namespace Go.Proofs.YtgjfejoohojokaaGreatDoor
open Kw
section
theorem QI:ownKnob Tryz.prog.godebug=none:=by kernel_rfl
theorem CH : Tryz.prog.globalNamed "kiln/word.kinds" = some bl := by kernel_rfl
theorem Qd : Tryz.prog.globalNamed "internal/strconv.uint64pow10" = some gP := by kernel_rfl
theorem Ll:(Tryz.prog.globals[bl]?).map (·.type)=some 77:=by kernel_rfl
theorem Pt:(Tryz.prog.globals[gP]?).map (·.type)=some 343:=by kernel_rfl
theorem L1:Tryz.prog.underlying 77=some (.array 4 3):=by kernel_rfl
theorem QB:Tryz.prog.underlying 343=some (.array 20 288):=by kernel_rfl
theorem Bw:Tryz.prog.underlying 3=some (.int .i64):=by kernel_rfl
theorem QE:Tryz.prog.underlying 288=some (.int .u64):=by kernel_rfl
theorem Cq:Tryz.prog.cellsOf 3=1:=by kernel_rfl
theorem QF:Tryz.prog.cellsOf 288=1:=by kernel_rfl
theorem QO:Tryz.prog.cellsOf 343=20:=by kernel_rfl
theorem vZ {W:World}{n:String}{g:Nat}{cs:Array Value}{i:Nat}{v:Value} (hg:PP.globalNamed n=some g) (hv:W.var? PP n=some cs) (h:cs[i]?=some v):aq W.heap ⟨g,i,none⟩=some v:=by
 have:=World.var?_cell hg hv i;rw [h] at this;exact this
open Go.Lib in
theorem rX {L : List (String × DataW Unit)} (hm : ("kiln/word.kinds", Rows.laid_kiln_word_kinds) ∈ L) {W : World} (h : laidMet PP L W) : eM W.heap := by
 obtain ⟨g, t, cs, fuel, p, hg, ht, hv, hd⟩ := laidMet.reads h (n := "kiln/word.kinds") (d := Rows.laid_kiln_word_kinds) hm
 obtain rfl:=Option.some.inj (CH.symm.trans hg);obtain rfl:=Option.some.inj (Ll.symm.trans ht);have one:∀ i (k:Int),i<4->([3,1,2,1]:List Int)[i]?=some k->aq W.heap ⟨bl,i,none⟩=some (.int .i64 k):=by
  intro i k hi hk;obtain ⟨fuel',d,q,he,hd'⟩:=array_elem L1 hd i hi;rw [Cq,a0y] at hd';obtain ⟨n,hcs,hx,_⟩:=DataW.trod_int Bw hd';obtain ⟨hdx,_⟩:=Prod.mk.inj hx;have hc:cs.toList[i]?=some (.int .i64 n):=by
   have:=congrArg (·[0]?) hcs;simpa [List.getElem?_take,List.getElem?_drop] using this
  have hs:n=k:=by
   have e:some d=some (.lit (.int .i64 k):DataW Unit):=by
    rw [←he];rcases i with _ | _ | _ | _ | i
    all_goals first | omega | (cases hk;rfl)
   rw [hdx] at e;simpa using e
  have hf:=vZ CH hv (i:=i) (v:=.int .i64 n) (by rw [←hc];simp);rw [hs] at hf;exact hf
 exact ⟨one 0 3 (by decide) rfl,one 1 1 (by decide) rfl,one 2 2 (by decide) rfl,one 3 1 (by decide) rfl⟩
open Go.Lib in
theorem vp {L : List (String × DataW Unit)} (hm : ("internal/strconv.uint64pow10", Rows.laid_internal_strconv_uint64pow10) ∈ L) {W : World} (h : laidMet PP L W) : iC W.heap := by
 obtain ⟨g, t, cs, fuel, p, hg, ht, hv, hd⟩ := laidMet.reads h (n := "internal/strconv.uint64pow10") (d := Rows.laid_internal_strconv_uint64pow10) hm
 obtain rfl:=Option.some.inj (Qd.symm.trans hg);obtain rfl:=Option.some.inj (Pt.symm.trans ht);have hd':DataW.trod _ PP W _ _ _ fuel 343 cs.toList=some (tabData .u64 Lib.pow10Tab,p):=hd;have hc:=cells_of_tab QB QE QF QO hd';unfold World.var? at hv;rw [Qd] at hv;simp only [Option.bind_some] at hv;cases hb:W.heap[gP]? with
 | none=>rw [hb] at hv;simp at hv
 | some ob =>
  rw [hb] at hv;cases ob with
  | cells a b c =>
   simp only [Option.some.injEq] at hv;subst hv;refine ⟨(b,c),?_⟩;rw [hb,←hc]
  | _=>simp at hv
end
end Go.Proofs.YtgjfejoohojokaaGreatDoor
namespace Go.Proofs.YtgjfejoohojokaaGreatDoor
section
open Kw Go.Deep
noncomputable def mM:Array Field:=match PP.underlying 28 with
 | some (.struct fs)=>fs
 | _=>#[]
theorem Qg:PP.underlying 28=some (.struct mM):=by kernel_rfl
theorem Be:PP.underlying 22=some (.slice 28):=by kernel_rfl
theorem Qn:PP.underlying 25=some (.slice 3):=by kernel_rfl
theorem Ps:PP.underlying 9=some .string:=by kernel_rfl
theorem Pm:PP.underlying 26=some (.int .i64):=by kernel_rfl
theorem Py:PP.cellsOf 26=1:=by kernel_rfl
theorem P0:PP.cellsOf 9=1:=by kernel_rfl
theorem PN:PP.cellsOf 25=1:=by kernel_rfl
theorem LJ:PP.cellsOf 28=6:=by kernel_rfl
theorem Ni:(mM[0]?).map (fun f=>(f.type,f.offset))=some (3,0):=by kernel_rfl
theorem NV:(mM[1]?).map (fun f=>(f.type,f.offset))=some (3,1):=by kernel_rfl
theorem L6:(mM[2]?).map (fun f=>(f.type,f.offset))=some (9,2):=by kernel_rfl
theorem LQ:(mM[3]?).map (fun f=>(f.type,f.offset))=some (3,3):=by kernel_rfl
theorem Mp:(mM[4]?).map (fun f=>(f.type,f.offset))=some (25,4):=by kernel_rfl
theorem L9:(mM[5]?).map (fun f=>(f.type,f.offset))=some (26,5):=by kernel_rfl
theorem gZ {Hh:Type}{enc:TypeId × Value->Hh}{W:World}{n:Nat}{fs:Array Field}{cs:List Value}{xs:List (DataW Hh × List MemPlace)} (hlen:xs.length=fs.size)
  (h:∀ (i:Nat) (f:Field),fs[i]?=some f->DataW.trod enc PP W 0 (fun _=>true) true n f.type ((cs.drop f.offset).take (PP.cellsOf f.type))=xs[i]?){j:Nat}{t:TypeId}{off:Nat}
  (hf:(fs[j]?).map (fun f=>(f.type,f.offset))=some (t,off)) (hc:PP.cellsOf t=1):∃ y,xs[j]?=some y∧DataW.trod enc PP W 0 (fun _=>true) true n t ((cs.drop off).take 1)=some y:=by
 obtain ⟨f,bw,fa⟩:=a3P.1 hf;obtain ⟨rfl,rfl⟩:=Prod.mk.inj fa;have hj:j<fs.size:=by
  rcases a2t j fs.size with h1 | h1
  ·exact h1
  ·rw [a2u h1] at bw;cases bw
 have hx:xs[j]?=some (xs[j]'(by omega)):=a0Q (by omega);refine ⟨_,hx,?_⟩
 have:=h j f bw;rw [hc,hx] at this;exact this
theorem Ij:laidOutB PP=true:=by kernel_rfl
theorem CN {W W':World} (hf:Fr [] W.heap W'.heap){x:MemPlace} (hx:x.block<W.heap.size):W.sameAt W' x:=by
 cases x with
 | cell b off =>
  show aq W'.heap ⟨b,off,none⟩=aq W.heap ⟨b,off,none⟩;have e:W'.heap[b]?=W.heap[b]?:=hf.2 b hx (by simp);unfold aq;dsimp only;rw [e]
 | map b=>exact hf.2 _ hx (by simp)
theorem AM {Hh:Type}{enc:TypeId × Value->Hh}{W W':World} (hf:Fr [] W.heap W'.heap){t:TypeId} (hr:PP.readableRec t=true) (a2p:t<PP.types.size){v:Value}{d:DataW Hh}{p:List MemPlace}
  (h:DataW.Trod enc PP W 0 (fun _=>true) true t v d p){sp:Nat->Bool} (hs:∀ x∈p,sp x.block=true):DataW.Trod enc PP W' 0 sp true t v d p:=by
 have an:∀ x∈p,x.block<W.heap.size:=fun x hx=>by
  obtain ⟨n,hn⟩:=h;exact DataW.trod_lt n _ _ _ hn x hx
 exact WideElems.Trod_stays Ij hr a2p h (fun x hx=>CN hf (an x hx)) hs
end
end Go.Proofs.YtgjfejoohojokaaGreatDoor
