/- Lemmas for RLists: functions of the program as predicate transformers, and their contracts. -/
import Derived.Test.YtmkdkplipbocjaaGreatDoorZL4
import Derived.ProofKit
import Derived.Test.YtmkdkplipbocjaaGreatDoorCards
import Derived.Test.YtmkdkplipbocjaaGreatDoorTie
import Derived.LaidLaws
import Derived.Handed
import Derived.Lib.LaidU8
import Derived.Deep.Strs
import Derived.WideKeyArgs
import Derived.SizedLaws
import Derived.JoinedOf
set_option linter.all false
set_option maxRecDepth 100000
set_option maxHeartbeats 4000000
namespace Go.Proofs.YtmkdkplipbocjaaGreatDoor
open Kw
def tailT (pl:List (Value × List ByteArray)) (n:Nat):List ByteArray:=((pl.drop n).reverse.map (·.2)).flatten
theorem tailT_step {pl:List (Value × List ByteArray)}{n:Nat} (h:n<pl.length):tailT pl n=tailT pl (n+1)++(pl[n]).2:=by
 unfold tailT
 rw [List.drop_eq_getElem_cons h]
 simp only [List.reverse_cons,List.map_append,List.map_cons,List.map_nil,List.flatten_append,List.flatten_cons,List.flatten_nil,List.append_nil]
theorem tailT_end (pl:List (Value × List ByteArray)):tailT pl pl.length=[]:=by simp [tailT]
theorem tailT_snoc (pl:List (Value × List ByteArray)) (x:Value × List ByteArray):tailT (pl++[x]) 0=x.2++tailT pl 0:=by simp [tailT]
theorem tailT_pre {pl:List (Value × List ByteArray)}:∀ (k n:Nat),n+k=pl.length→∃ r,tailT pl 0=tailT pl n++r∧True:=by
 intro k n hk
 induction n generalizing k with
 | zero=>exact ⟨[],by simp,trivial⟩
 | succ n ih =>
  obtain ⟨r,e,_⟩:=ih (k+1) (by omega)
  exact ⟨(pl[n]'(by omega)).2++r,by rw [e,tailT_step (by omega)];simp,trivial⟩
def PartOK (H:Heap) (p:Value × List ByteArray):Prop:=∃ a l c,p.1=.slice a l c∧Rd 1 H a l (strsV p.2)
section
variable {H:Heap}{b:Nat}{F:Foot}{s:SP}{t:TB}{v:KV}{Q:QT}
theorem infoK_name {i:Nat} (hi:i<v.cls.length):(infoK v t i).name=tx t (v.cls[i]).name∧(infoK v t i).own=(v.cls[i]).own.map (tx t):=by
 unfold infoK;rw [List.getElem?_eq_getElem hi];exact ⟨rfl,rfl⟩
theorem name_inj (hv:KAll s t v){i j:Nat} (hi:i<v.cls.length) (hj:j<v.cls.length) (h:(infoK v t i).name=(infoK v t j).name):i=j:=by
 rw [(infoK_name hi).1,(infoK_name hj).1] at h
 have:=tx_inj hv.names.wf (hv.names.name _ (List.getElem_mem hi)) (hv.names.name _ (List.getElem_mem hj)) h
 have hn:=hv.names.nodup
 have e1:(v.cls.map (·.name))[i]'(by simpa using hi)=(v.cls.map (·.name))[j]'(by simpa using hj):=by simpa using this
 exact (List.getElem_inj hn).1 e1
theorem name_ne (hv:KAll s t v){i:Nat} (hi:i<v.cls.length):(infoK v t i).name≠⟨#[]⟩:=by
 rw [(infoK_name hi).1]
 have:=tx_good hv.names.wf (hv.names.name _ (List.getElem_mem hi))
 intro e
 rw [e] at this
 exact absurd this.1 (by decide)
theorem atSup_r (hv:KAll s t v){a:Option Addr}{l c:Nat}{G:Foot} (hL:LRep 4 InfoR H a l c (infosK v t) G){i:Nat} (hi:i<v.cls.length)
  (h:Q (.int .i64 (match upIdx v i with | some j=>(j:Int) | none=>-1)) H):callS PP n_k266 #[.slice a l c,.int .i64 i,.string (infoK v t i).sup] Q H:=by
 have hm1:=hv.ks.shape.many1
 have hsup:(infoK v t i).sup=match upIdx v i with
  | some j=>match v.cls[j]? with
   | some d=>tx t d.name
   | none=>⟨#[]⟩
  | none=>⟨#[]⟩:=by unfold infoK;rw [List.getElem?_eq_getElem hi] <;> rfl
 rcases hv.ks.upI hi with ⟨_,e0,e1⟩ | ⟨j,hj,hlt,e0,_,e1⟩
 ·rw [e1] at hsup h
  simp only at hsup h
  refine at_r hL (Nat.le_of_lt hi) hm1 (fun k hk he _=>?_) fun _=>h
  rw [hsup] at he
  exact absurd he (name_ne hv (by omega))
 ·rw [e1] at hsup h
  simp only [List.getElem?_eq_getElem hj] at hsup h
  have hsj:(infoK v t i).sup=(infoK v t j).name:=by rw [hsup,(infoK_name hj).1]
  refine at_r hL (Nat.le_of_lt hi) hm1 (fun k hk he _=>?_) fun hno=>?_
  ·rw [hsj] at he
   have:=name_inj hv (by omega) hj he
   subst this;exact h
  ·exact absurd hsj.symm (hno j hlt)
theorem fields20_r (hv:KAll s t v){a:Option Addr}{l c:Nat}{G:Foot} (hL:LRep 4 InfoR H a l c (infosK v t) G){i:Nat} (hi:i<v.cls.length)
  (h:∀ a l c G H',Own 1 H' a l c (strsV ((fieldsK v i).map (tx t))) G→Fr [] H H'→(∀ x∈G,H.size≤x)→Q (.slice a l c) H'):callS PP n_k222 #[.slice a l c,.int .i64 i,.int .i64 (-1),.slice none 0 0] Q H:=by
 have hs1:sliceInfo PP 37=some (1,16,some (.string (⟨#[]⟩:ByteArray))):=by kernel_rfl
 have hs2:sliceInfo PP 80=some (1,24,some (.slice none 0 0)):=by kernel_rfl
 have hm1:=hv.ks.shape.many1
 have hfl:=fields_len hv.ks i hi
 have hl:l=v.cls.length:=by have:=hL.len;simpa [infosK] using this
 apply k222_ok
 unfold k222 A0 iV wW sV lV cS
 refine ⟨fun w H'=>∃(cx:Int) (a8:Option Addr) (l8 c8:Nat) (G8:Foot) (pl:List (Value × List ByteArray)),w=[.int .i64 cx,.slice a8 l8 c8]∧Own 1 H' a8 l8 c8 (pl.map (·.1)) G8∧Fr [] H H'∧(∀ x∈G8,H.size≤x)∧(∀ p∈pl,PartOK H p)∧pl.length+(cx+1).toNat≤i+1 ∧
   ((cx=-1∧(fieldsK v i).map (tx t)=tailT pl 0)∨∃ j,∃ _:j<v.cls.length,cx=(j:Int)∧(fieldsK v i).map (tx t)=(fieldsK v j).map (tx t)++tailT pl 0),fun w _=>match w with
  | [.int _ cx,_]=>(cx+1).toNat
  | _=>0,⟨i,none,0,0,[],[],rfl,Own.nil 1 H,Fr.refl _ _,by simp,by simp,by first | (simp;done) | (simp;omega),.inr ⟨i,hi,rfl,by simp [tailT]⟩⟩,?_⟩
 rintro w H1 ⟨cx,a8,l8,c8,G8,pl,rfl,ho8,hf8,hG8,hpl,hlen8,hcase⟩ _
 have hl8:l8=pl.length:=by have:=ho8.len;simpa using this.symm
 refine ⟨_,_,_,_,rfl,?_⟩
 rw [cond_dec]
 refine ite_i (fun hge=>?_) fun hge=>?_
 ·
  rcases hcase with ⟨e,_⟩ | ⟨j,hj,rfl,heq⟩
  ·omega
  rw [beqI,cond_dec,if_neg (by omega)]
  obtain ⟨p,a2,l2,c2,G2,rfl,hspot,_,_,cc2,ho2,_⟩:=info_get (hL.fr InfoR.fr InfoR.lt hf8 (Disj.nil_right _)) hj
  obtain ⟨p',a2',l2',c2',G2',hp',_,_,_,cc2',ho2',_⟩:=info_get hL hj
  cases hp'
  refine ⟨⟨by omega,by omega⟩,_,rfl,_,_,_,by rw [Int.toNat_natCast];exact cc2,?_⟩
  refine evS_append1 hs2 rfl (by kernel_rfl) ho8 rfl (by simp [oneC]) (by omega) (by decide) (by decide) fun a' c' G3 H3 g1 g2 g3=>⟨_,_,_,rfl,⟨by omega,by omega⟩,_,rfl,?_⟩
  have hfr:=Up.fresh hf8 g2 hG8
  have hL3:=hL.fr InfoR.fr InfoR.lt hfr.1 (Disj.nil_right _)
  obtain ⟨p',a3,l3,c3,G4,hp',_,_,cc1,_⟩:=info_get hL3 hj
  cases hp'
  refine ⟨_,by rw [Int.toNat_natCast];exact cc1,atSup_r hv hL3 hj ⟨_,rfl,?_⟩⟩
  have hj':(v.cls[j]).own.map (tx t)=(infoK v t j).own:=(infoK_name hj).2.symm
  have hsl:Value.slice a2 l2 c2=.slice a2' l2' c2':=by
   have e2:cellH H1 ((p.add (j*4)).add 2)=cellH H ((p.add (j*4)).add 2):=by
    obtain ⟨pb,po,ps⟩:=p
    simp only at hspot
    subst hspot
    rw [add_none,add_none] at cc2' ⊢
    exact cell_fr hf8 (by simp) (cell_lt cc2')
   rw [cc2,cc2'] at e2
   exact Option.some.inj e2
  have hpart:PartOK H (.slice a2 l2 c2,(infoK v t j).own):=⟨a2',l2',c2',hsl,ho2'.rd⟩
  rcases hv.ks.upI hj with ⟨h0,_,e1⟩ | ⟨k,hk,hlt,_,_,e1⟩
  ·rw [e1]
   simp only
   refine ⟨⟨-1,a',l8+1,c',G3,pl++[(.slice a2 l2 c2,(infoK v t j).own)],rfl,by simpa using g1,hfr.1,hfr.2,fun q hq=>?_,by first | (simp;done) | (simp;omega),.inl ⟨rfl,?_⟩⟩,by first | (simp;done) | (simp;omega)⟩
   ·rcases List.mem_append.1 hq with hq | hq
    ·exact hpl q hq
    ·simp only [List.mem_singleton] at hq;rw [hq];exact hpart
   ·subst h0
    rw [tailT_snoc,heq,hv.ks.fields0 hj,hj']
  ·rw [e1]
   simp only
   refine ⟨⟨k,a',l8+1,c',G3,pl++[(.slice a2 l2 c2,(infoK v t j).own)],rfl,by simpa using g1,hfr.1,hfr.2,fun q hq=>?_,by first | (simp;done) | (simp;omega),.inr ⟨k,hk,rfl,?_⟩⟩,by first | (simp;done) | (simp;omega)⟩
   ·rcases List.mem_append.1 hq with hq | hq
    ·exact hpl q hq
    ·simp only [List.mem_singleton] at hq;rw [hq];exact hpart
   ·rw [tailT_snoc,heq,hv.ks.fieldsS hj hlt e1,List.map_append,hj',List.append_assoc]
 ·
  have heq:(fieldsK v i).map (tx t)=tailT pl 0:=by
   rcases hcase with ⟨_,e⟩ | ⟨j,_,e,_⟩
   ·exact e
   ·omega
  have htot:(tailT pl 0).length≤3000000:=by rw [←heq,List.length_map];omega
  have hpn:pl.length≤1000:=by omega
  have e0:IntKind.wrap .i64 ((l8:Int)-1)=(pl.length:Int)-1:=by rw [wrap64_id (by omega) (by omega)];omega
  refine ⟨fun w H'=>∃(n:Nat) (a3:Option Addr) (l3 c3:Nat) (G3:Foot),w=[.slice a3 l3 c3,.int .i64 ((n:Int)-1)]∧n≤pl.length∧Own 1 H' a3 l3 c3 (strsV (tailT pl n)) G3∧Fr [] H1 H'∧(∀ x∈G3,H1.size≤x),fun w _=>match w with
   | [_,.int _ n]=>(n+1).toNat
   | _=>0,⟨pl.length,none,0,0,[],by rw [e0],Nat.le_refl _,by rw [tailT_end];exact Own.nil 1 H1,Fr.refl _ _,by simp⟩,?_⟩
  rintro w H6 ⟨n,a3,l3,c3,G3,rfl,hn,ho3,hf3,hG3⟩ _
  refine ⟨_,_,_,_,rfl,?_⟩
  rw [cond_dec]
  refine ite_i (fun hge2=>?_) fun hge2=>?_
  ·have hnp:n-1<pl.length:=by omega
   have en:(n:Int)-1=((n-1:Nat):Int):=by omega
   have hp:=hpl _ (List.getElem_mem hnp)
   obtain ⟨ap,lp,cp,ep,hrp⟩:=hp
   obtain ⟨r,er,_⟩:=tailT_pre (pl:=pl) (pl.length-(n-1)) (n-1) (by omega)
   have es:=tailT_step hnp
   rw [show n-1+1=n by omega] at es
   have hlp:lp=(pl[n-1]).2.length:=by have:=hrp.1;simpa [strsV] using this.symm
   have hle:(tailT pl n).length+(pl[n-1]).2.length≤3000000:=by
    rw [er,es] at htot
    simp only [List.length_append] at htot
    omega
   have hcellP:∀ {H':Heap},Fr [] H1 H'→∃ q,a8=some q∧cellH H' (q.add ((n-1)*1))=some (.slice ap lp cp):=by
    intro H' hf'
    have hr8:=(ho8.fr hf' (by simp)).rd
    cases ha:a8 with
    | none =>
     have:=hr8.2.1 ha
     omega
    | some q =>
     refine ⟨q,rfl,?_⟩
     rw [hr8.2.2 q ha ((n-1)*1) (by omega)]
     rw [Nat.mul_one,List.getElem?_map,List.getElem?_eq_getElem hnp,←ep]
     rfl
   refine ⟨fun w H'=>∃(k:Nat) (a4:Option Addr) (l4 c4:Nat) (G4:Foot),w=[.slice a4 l4 c4,.int .i64 k]∧k≤(pl[n-1]).2.length∧Own 1 H' a4 l4 c4 (strsV (tailT pl n++(pl[n-1]).2.take k)) G4∧Fr [] H1 H'∧(∀ x∈G4,H1.size≤x),fun w _=>match w with
    | [_,.int _ k]=>((pl[n-1]).2.length-k).toNat
    | _=>0,⟨0,a3,l3,c3,G3,rfl,Nat.zero_le _,by simpa using ho3,hf3,hG3⟩,?_⟩
   rintro w H7 ⟨k,a4,l4,c4,G4,rfl,hk,ho4,hf4,hG4⟩ _
   have hl4:l4=(tailT pl n).length+k:=by
    have:=ho4.len
    simp only [strsV,List.length_map,List.length_append,List.length_take] at this
    omega
   obtain ⟨q,hq,hcq⟩:=hcellP hf4
   subst hq
   rw [en]
   refine ⟨_,_,_,_,rfl,⟨by omega,by omega⟩,_,rfl,_,_,_,by rw [Int.toNat_natCast];exact hcq,?_⟩
   rw [cond_dec]
   refine ite_i (fun hlt=>?_) fun hlt=>?_
   ·obtain ⟨pp,hlt2,rfl,hcell⟩:=(hrp.fr' (hf8.trans hf4) (by simp)).str (i:=(k:Int)) (by omega) hlt
    simp only [Int.toNat_natCast] at hcell hlt2
    have e1:IntKind.wrap .i64 ((k:Int)+1)=((k+1:Nat):Int):=by rw [wrap64_id (by omega) (by omega)];omega
    refine ⟨⟨by omega,by omega⟩,_,rfl,_,_,_,by rw [Int.toNat_natCast];exact hcq,⟨by omega,hlt⟩,_,rfl,_,by rw [Int.toNat_natCast,Nat.mul_one];exact hcell,?_⟩
    refine evS_append1 hs1 rfl (by kernel_rfl) ho4 rfl (by simp [oneC]) (by omega) (by decide) (by decide) fun a' c' G5 H8 g1 g2 g3=>⟨_,_,_,rfl,?_⟩
    have hfr:=Up.fresh hf4 g2 hG4
    rw [e1]
    refine ⟨⟨k+1,a',l4+1,c',G5,rfl,by omega,?_,hfr.1,hfr.2⟩,by first | (simp;done) | (simp;omega)⟩
    rw [List.take_add_one,List.getElem?_eq_getElem hlt2,←List.append_assoc,strsV_append]
    exact g1
   ·have hkl:k=(pl[n-1]).2.length:=by omega
    rw [hkl,List.take_length,←es] at ho4
    have e1:IntKind.wrap .i64 (((n-1:Nat):Int)-1)=((n-1:Nat):Int)-1:=wrap64_id (by omega) (by omega)
    rw [e1]
    exact ⟨⟨n-1,a4,l4,c4,G4,rfl,by omega,ho4,hf4,hG4⟩,by first | (simp;done) | (simp;omega)⟩
  ·have:n=0:=by omega
   subst this
   rw [←heq] at ho3
   exact h _ _ _ G3 H6 ho3 (hf8.trans hf3) fun x hx=>Nat.le_trans hf8.1 (hG3 x hx)
end
section
variable {H:Heap}{b:Nat}{F:Foot}{s:SP}{t:TB}{v:KV}{Q:QT}
theorem fields_r (hK:RK H b F s t) (hv:KAll s t v){o:Int} (h1:∀ i,plK v o=some i→∀ a l c G H',Own 1 H' a l c (strsV ((fieldsK v i).map (tx t))) G→Fr [] H H'→(∀ x∈G,H.size≤x)→Q (.tuple #[.slice a l c,.int .i64 0]) H')
  (h2:plK v o=none→∀ H',Fr [] H H'→Q (.tuple #[.slice none 0 0,.int .i64 130]) H'):callS PP n_k125 #[.pointer (some ⟨b,0,none⟩),.int .i64 o] Q H:=by
 have hm1:=hv.ks.shape.many1
 apply k125_ok
 unfold k125 iV wW pV lV cS
 refine place_r hK hv.ks fun H1 hf1=>⟨_,rfl,?_⟩
 unfold placeN
 cases hp:plK v o with
 | none=>exact h2 hp H1 hf1
 | some i =>
  obtain ⟨hi,rfl⟩:=plK_some hp
  rw [beqI,cond_dec,if_neg (by simp only;omega)]
  refine infos_r (hK.nil hf1) hv fun a l c G H2 hL hf2 hG=>⟨_,_,_,rfl,?_⟩
  have e:IntKind.wrap .i64 ((i:Int)+1-1)=(i:Int):=by rw [wrap64_id (by omega) (by omega)];omega
  simp only [e]
  exact fields20_r hv hL hi fun a2 l2 c2 G2 H3 ho hf3 hG2=>⟨_,_,_,rfl,h1 i hp a2 l2 c2 G2 H3 ho ((hf1.trans hf2).trans hf3) fun x hx=>Nat.le_trans (hf1.trans hf2).1 (hG2 x hx)⟩
theorem under_r (hK:RK H b F s t) (hv:KAll s t v){o:Int} (h1:∀ i,plK v o=some i→∀ a l c G H',Own 1 H' a l c (intsV (underK v o)) G→Fr [] H H'→(∀ x∈G,H.size≤x)→Q (.slice a l c) H')
  (h2:plK v o=none→∀ H',Fr [] H H'→Q (.slice none 0 0) H'):callS PP n_k126 #[.pointer (some ⟨b,0,none⟩),.int .i64 o] Q H:=by
 have hs1:sliceInfo PP 66=some (1,8,some (.int .i64 0)):=by kernel_rfl
 have hm1:=hv.ks.shape.many1
 apply k126_ok
 unfold k126 A0 iV wW pV lV cS
 refine place_r hK hv.ks fun H1 hf1=>⟨_,rfl,all_r (hK.nil hf1) hv.ks fun al ll cl Gl H2 hol hf2 hGl=>⟨_,_,_,rfl,?_⟩⟩
 have hll:ll=v.cls.length:=by have:=hol.len;simpa [intsV,oopsK] using this.symm
 have hF2:=hf1.trans hf2
 cases hp:plK v o with
 | none =>
  have e0:placeN v o=0:=by unfold placeN;rw [hp]
  rw [e0]
  refine ⟨fun w H'=>w=[.slice none 0 0,.int .i64 0]∧H'=H2,fun _ _=>0,⟨rfl,rfl⟩,?_⟩
  rintro w H3 ⟨rfl,rfl⟩ _
  refine ⟨_,_,_,_,rfl,?_⟩
  rw [cond_dec,if_neg (by decide)]
  exact h2 hp _ hF2
 | some p =>
  obtain ⟨hpi,hpo⟩:=plK_some hp
  have e0:placeN v o=(p:Int)+1:=by unfold placeN;rw [hp]
  rw [e0]
  have ho1:=(up_arr hv.ks hpi).1
  rw [hpo] at ho1
  let D:CV:=⟨0,0,0,[],0,0,0,[],[],0⟩
  let f:Nat→Bool:=fun i=>decide (Und v o (v.cls.getD i D).oop)
  let pre:Nat→List Int:=fun n=>((List.range n).filter f).map fun i:Nat=>(i:Int)+1
  have hpre:∀ n,pre (n+1)=pre n++if f n then [(n:Int)+1] else []:=by
   intro n
   simp only [pre,List.range_succ,List.filter_append,List.map_append]
   congr 1
   by_cases hfn:f n <;> simp [hfn]
  have hprel:∀ n,(pre n).length≤n:=fun n=>by simp only [pre,List.length_map];exact Nat.le_trans (List.length_filter_le _ _) (by simp)
  have hend:pre v.cls.length=underK v o:=rfl
  have hgd:∀ i (hi:i<v.cls.length),v.cls.getD i D=v.cls[i]:=fun i hi=>by simp [hi]
  have hlow:∀ i,i<v.cls.length→i<p→¬ Und v o (v.cls.getD i D).oop:=by
   intro i
   induction i using Nat.strongRecOn with
   | ind i ih =>
    intro hi hip hu
    rw [hgd i hi] at hu
    rcases (und_iff hv.ks hi).1 hu with he | ⟨hne,hu2⟩
    ·have:=hv.ks.view.inj hi hpi (he.trans hpo.symm)
     omega
    ·rcases hv.ks.upI hi with ⟨_,h5,_⟩ | ⟨j,hj,hji,h5,_,_⟩
     ·exact hne h5
     ·rw [h5] at hu2
      exact ih j hji hj (by omega) (by rw [hgd j hj];exact hu2)
  have hpre0:∀ n,n≤p→pre n=[]:=by
   intro n hn
   induction n with
   | zero=>rfl
   | succ n ih =>
    rw [hpre,ih (by omega)]
    have:f n=false:=by simpa [f] using hlow n (by omega) (by omega)
    rw [this];rfl
  refine ⟨fun w H'=>∃(i:Nat) (a:Option Addr) (l' c:Nat) (G:Foot),w=[.slice a l' c,.int .i64 ((i:Int)+1)]∧i≤v.cls.length∧Own 1 H' a l' c (intsV (pre i)) G∧Fr [] H2 H'∧(∀ x∈G,H2.size≤x),fun w _=>match w with
   | [_,.int _ i]=>((v.cls.length:Int)+1-i).toNat
   | _=>0,⟨p,none,0,0,[],rfl,Nat.le_of_lt hpi,by rw [hpre0 p (Nat.le_refl _)];exact Own.nil 1 H2,Fr.refl _ _,by simp⟩,?_⟩
  rintro w H3 ⟨i,a1,l1,c1,G,rfl,hi,ho,hf3,hG⟩ _
  have hl1:l1≤i:=by have h1:=ho.len;have h2:=hprel i;simp only [intsV,List.length_map] at h1;omega
  refine ⟨_,_,_,_,rfl,?_⟩
  rw [cond_dec,if_pos (by omega),cond_dec]
  refine ite_i (fun hlt=>?_) fun hlt=>?_
  ·have hlt':i<v.cls.length:=by omega
   have ew:IntKind.wrap .i64 ((i:Int)+1-1)=(i:Int):=by rw [wrap64_id (by omega) (by omega)];omega
   have e1:IntKind.wrap .i64 ((i:Int)+1+1)=((i+1:Nat):Int)+1:=by rw [wrap64_id (by omega) (by omega)];omega
   obtain ⟨q,rfl,hcell⟩:=rd_oops hol hf3 hlt'
   have hF3:=hF2.trans hf3
   have hfi:f i=decide (Und v o (v.cls[i]).oop):=by simp only [f,hgd i hlt']
   rw [ew,e1]
   refine ⟨⟨by omega,by omega⟩,_,rfl,_,by rw [Int.toNat_natCast];exact hcell,?_⟩
   refine ⟨fun w H'=>H'=H3∧∃ x:Int,w=[.int .i64 x]∧(Und v o (v.cls[i]).oop↔x≠0∧Und v o x)∧(x=0∨∃ j,∃ hj:j<v.cls.length,(v.cls[j]).oop=x),fun w _=>match w with
    | [.int _ x]=>match plK v x with
     | some j=>j+1
     | none=>0
    | _=>0,⟨rfl,_,rfl,⟨fun hu=>⟨by have:=(up_arr hv.ks hlt').1;omega,hu⟩,fun hu=>hu.2⟩,.inr ⟨i,hlt',rfl⟩⟩,?_⟩
   rintro w H4 ⟨rfl,x,rfl,hx,hxc⟩ _
   refine ⟨_,rfl,?_⟩
   have yes:Und v o (v.cls[i]).oop→∀ {K:Value→Heap→Prop} (_:∀ a' n' c' G' H9,Own 1 H9 a' n' c' (intsV (pre (i+1))) G'→Fr [] H2 H9→(∀ x∈G',H2.size≤x)→K (.slice a' n' c') H9),
     evS PP (Builtin.append_ #[66,66] 66 #[.slice a1 l1 c1,.slice (some (⟨H4.size,0,none⟩:Addr)) 1 1]) K (H4.push (.cells #[.int .i64 ((i:Int)+1)] 3)):=by
    intro hU K hk
    refine evS_append1 hs1 rfl (by kernel_rfl) ho rfl (by simp [oneC]) (by omega) (by decide) (by decide) fun a' c' G2 H9 g1 g2 g3=>?_
    have hfr:=Up.fresh hf3 g2 hG
    refine hk _ _ _ G2 H9 ?_ hfr.1 hfr.2
    rw [hpre,hfi,decide_eq_true hU]
    simp only [if_pos,intsV_append]
    exact g1
   have no:¬ Und v o (v.cls[i]).oop→pre (i+1)=pre i:=fun hU=>by rw [hpre,hfi,decide_eq_false hU];simp
   have out:∀ (hxo:¬ (x≠0∧x≠o)),cond (x == o) (evS PP (Builtin.append_ #[66,66] 66 #[.slice a1 l1 c1,.slice (some (⟨H4.size,0,none⟩:Addr)) 1 1]) (fun v18 H6=>∃ a19:Option Addr,∃ l19:Nat,∃ c19:Nat,v18=.slice a19 l19 c19 ∧
     (∃(i_1:Nat) (a:Option Addr) (l' c:Nat) (G:Foot),[Value.slice a19 l19 c19,.int .i64 (((i+1:Nat):Int)+1)]=[.slice a l' c,.int .i64 ((i_1:Int)+1)]∧i_1≤v.cls.length∧Own 1 H6 a l' c (intsV (pre i_1)) G∧Fr [] H2 H6∧(∀ x∈G,H2.size≤x))∧((v.cls.length:Int)+1-(((i+1:Nat):Int)+1)).toNat<((v.cls.length:Int)+1-((i:Int)+1)).toNat) (H4.push (.cells #[.int .i64 ((i:Int)+1)] 3)))
     ((∃(i_1:Nat) (a:Option Addr) (l' c:Nat) (G:Foot),[Value.slice a1 l1 c1,.int .i64 (((i+1:Nat):Int)+1)]=[.slice a l' c,.int .i64 ((i_1:Int)+1)]∧i_1≤v.cls.length∧Own 1 H4 a l' c (intsV (pre i_1)) G∧Fr [] H2 H4∧(∀ x∈G,H2.size≤x))∧((v.cls.length:Int)+1-(((i+1:Nat):Int)+1)).toNat<((v.cls.length:Int)+1-((i:Int)+1)).toNat):=by
    intro hxo
    rw [beqI,cond_dec]
    refine ite_i (fun he=>?_) fun he=>?_
    ·have hU:Und v o (v.cls[i]).oop:=hx.2 ⟨by omega,by rw [he];exact .self⟩
     exact yes hU fun a' n' c' G' H9 k1 k2 k3=>⟨_,_,_,rfl,⟨i+1,a',n',c',G',rfl,by omega,k1,k2,k3⟩,by omega⟩
    ·have hx0:x=0:=Classical.byContradiction fun hn=>hxo ⟨hn,he⟩
     have hU:¬ Und v o (v.cls[i]).oop:=fun hU=>(hx.1 hU).1 hx0
     refine ⟨⟨i+1,a1,l1,c1,G,rfl,by omega,by rw [no hU];exact ho,hf3,hG⟩,by omega⟩
   rw [bneI,cond_dec]
   refine ite_i (fun hx0=>?_) fun hx0=>out fun hh=>hx0 hh.1
   rw [bneI,cond_dec]
   refine ite_i (fun hxo=>?_) fun hxo=>out fun hh=>hxo hh.2
   rcases hxc with h5 | ⟨j,hj,rfl⟩
   ·exact absurd h5 hx0
   refine up_r (hK.nil hF3) hv.ks hj ⟨_,rfl,?_⟩
   have huj:=und_iff hv.ks (o:=o) hj
   refine ⟨⟨rfl,superK v j,rfl,?_,?_⟩,?_⟩
   ·rw [hx]
    constructor
    ·rintro ⟨_,h6⟩
     rcases huj.1 h6 with h7 | h7
     ·exact absurd h7 hxo
     ·exact h7
    ·exact fun h6=>⟨hx0,huj.2 (.inr h6)⟩
   ·rcases hv.ks.upI hj with ⟨_,h6,_⟩ | ⟨k,hk,_,h6,_,_⟩
    ·exact .inl h6
    ·exact .inr ⟨k,hk,h6.symm⟩
   ·simp only [hv.ks.idx hj]
    rcases hv.ks.upI hj with ⟨_,h6,h7⟩ | ⟨k,hk,hkj,h6,_,h7⟩
    ·have:plK v (superK v j)=none:=h7
     rw [this];simp
    ·rw [h6,hv.ks.idx hk];simp;omega
  ·have:i=v.cls.length:=by omega
   subst this
   rw [hend] at ho
   exact h1 p hp _ _ _ G H3 ho (hF2.trans hf3) fun x hx=>Nat.le_trans hF2.1 (hG x hx)
end
section
variable {H:Heap}{b:Nat}{F:Foot}{s:SP}{t:TB}{v:KV}{Q:QT}
theorem seek {a a4:Option Addr}{l l4:Nat}{xs own:List ByteArray}{x:ByteArray}{n k:Nat} (hk:Rd 1 H a l (strsV xs)) (h4:Rd 1 H a4 l4 (strsV own)) (hn:own[n]?=some x) (hkl:k≤l) (hlk:l≤1000000000000000) (hl4:l4=own.length)
  {bad good:Heap→Prop} (hbad:x∈xs.take k→bad H) (hgood:x∉xs.take k→good H) :
  ∃(I:List Value→Heap→Prop) (μ:List Value→Heap→Nat),I [.int .i64 0] H∧∀ w H1,I w H1→∀ _g:Nat→Value,∃ m:Int,w=[.int .i64 m]∧cond (decide (m<(k:Int))) (((0:Int)≤m∧m<(l:Int))∧∃ q,a=some q∧∃ s:ByteArray,cellH H1 (q.add (Int.toNat m*1))=some (.string s)∧((0:Int)≤(n:Int)∧(n:Int)<(l4:Int))∧∃ q4,a4=some q4∧∃ s4:ByteArray,cellH H1 (q4.add (Int.toNat (n:Int)*1))=some (.string s4)∧cond (strEq s s4) (bad H1) (I [.int .i64 (IntKind.wrap .i64 (m+1))] H1∧μ [.int .i64 (IntKind.wrap .i64 (m+1))] H1<μ w H1)) (good H1):=by
 have hl:l=xs.length:=by have:=hk.1;simpa [strsV] using this.symm
 have hnl:n<own.length:=by
  rcases Nat.lt_or_ge n own.length with h1 | h1
  ·exact h1
  ·rw [List.getElem?_eq_none h1] at hn;cases hn
 refine ⟨fun w H'=>H'=H∧∃ i:Nat,w=[.int .i64 i]∧i≤k∧∀ j (hj:j<xs.length),j<i→xs[j]≠x,fun w _=>match w with
  | [.int _ i]=>(k-i).toNat
  | _=>0,⟨rfl,0,rfl,Nat.zero_le _,fun j _ hj=>by omega⟩,?_⟩
 rintro w H1 ⟨rfl,i,rfl,hi,hall⟩ _
 refine ⟨_,rfl,?_⟩
 rw [cond_dec]
 refine ite_i (fun hlt=>?_) fun hlt=>?_
 ·obtain ⟨p,hlt2,rfl,hcell⟩:=hk.str (i:=(i:Int)) (by omega) (by omega)
  simp only [Int.toNat_natCast] at hcell hlt2
  obtain ⟨p4,hlt4,rfl,hcell4⟩:=h4.str (i:=(n:Int)) (by omega) (by omega)
  simp only [Int.toNat_natCast] at hcell4 hlt4
  have ex:own[n]=x:=by rw [List.getElem?_eq_getElem hnl] at hn;exact Option.some.inj hn
  rw [ex] at hcell4
  have e:IntKind.wrap .i64 ((i:Int)+1)=((i+1:Nat):Int):=by rw [wrap64_id (by omega) (by omega)];omega
  refine ⟨⟨by omega,by omega⟩,_,rfl,_,by rw [Int.toNat_natCast,Nat.mul_one];exact hcell,⟨by omega,by omega⟩,_,rfl,_,by rw [Int.toNat_natCast,Nat.mul_one];exact hcell4,?_⟩
  rw [strEq_dec,cond_dec]
  refine ite_i (fun he=>hbad ?_) fun he=>?_
  ·rw [←he]
   exact List.mem_take_iff_getElem.2 ⟨i,by omega,rfl⟩
  ·rw [e]
   refine ⟨⟨rfl,i+1,rfl,by omega,fun j hj hji=>?_⟩,by simp;omega⟩
   rcases Nat.lt_or_ge j i with h5 | h5
   ·exact hall j hj h5
   ·have:j=i:=by omega
    subst this;exact he
 ·refine hgood fun hm=>?_
  obtain ⟨j,hj,he⟩:=List.mem_take_iff_getElem.1 hm
  exact hall j (by omega) (by omega) he
theorem refused_r (hK:RK H b F s t) (hv:KAll s t v){name sup:ByteArray}{a:Option Addr}{l c:Nat}{own:List ByteArray} (hk:Rd 1 H a l (strsV own)) (hlk:l≤1000000000000000)
  (h:∀ H',Fr [] H H'→Q (.tuple #[.int .i64 (defK v t name sup own).1,.int .i64 (defK v t name sup own).2]) H'):callS PP n_k208 #[.pointer (some ⟨b,0,none⟩),.string name,.string sup,.slice a l c] Q H:=by
 have hm1:=hv.ks.shape.many1
 have hl:l=own.length:=by have:=hk.1;simpa [strsV] using this.symm
 apply k208_ok
 unfold k208 iV wW pV sV lV cS
 unfold defK at h
 refine className_r ⟨_,rfl,?_⟩
 rw [←decide_not,cond_dec]
 refine ite_i (fun h1=>?_) fun h1=>?_
 ·rw [if_pos h1] at h;exact h H (Fr.refl _ _)
 rw [if_neg h1] at h
 refine taken_r hK hv fun H2 hf2=>⟨_,rfl,?_⟩
 rw [cond_dec]
 refine ite_i (fun h2=>?_) fun h2=>?_
 ·rw [if_pos h2] at h;exact h H2 hf2
 rw [if_neg h2] at h
 refine find_r (hK.nil hf2) hv fun H3 hf3=>⟨_,_,rfl,?_⟩
 have hF3:=hf2.trans hf3
 rw [bneI,cond_dec]
 refine ite_i (fun h3=>?_) fun h3=>?_
 ·rw [if_pos h3] at h
  have e130:(findK v t sup).2=130:=by
   rcases findK_cases v t sup with ⟨e,_⟩ | ⟨j,hj,e,_⟩
   ·rw [e]
   ·rw [e] at h3;simp at h3
  rw [e130] at h;exact h H3 hF3
 rw [if_neg h3] at h
 rcases findK_cases v t sup with ⟨e,_⟩ | ⟨j,hj,e,_⟩
 ·rw [e] at h3;simp at h3
 have hfl:=fields_len hv.ks j hj
 rw [e] at h ⊢
 have hpl:=hv.ks.idx hj
 simp only [hpl] at h
 refine place_r (hK.nil hF3) hv.ks fun H4 hf4=>⟨_,rfl,?_⟩
 have hF4:=hF3.trans hf4
 have epn:placeN v (v.cls[j]).oop=(j:Int)+1:=by unfold placeN;rw [hpl]
 rw [epn]
 refine ⟨fun w H'=>w=[]∧H'=H4∧¬ (1≤j∧j<14),?_,?_⟩
 ·rw [cond_dec]
  refine ite_i (fun h4=>?_) fun h4=>⟨rfl,rfl,by omega⟩
  rw [cond_dec]
  refine ite_i (fun h5=>?_) fun h5=>⟨rfl,rfl,by omega⟩
  rw [if_pos (by omega)] at h
  exact h H4 hF4
 rintro w H5 ⟨rfl,rfl,h4⟩ _
 rw [if_neg h4] at h
 refine ⟨rfl,fields_r (hK.nil hF4) hv (fun j' hp' a6 l6 c6 G H6 ho6 hf6 hG=>?_) fun hp'=>by rw [hpl] at hp';cases hp'⟩
 rw [hpl] at hp'
 cases hp'
 refine ⟨_,_,_,_,rfl,?_⟩
 have hF6:=hF4.trans hf6
 have hl6:l6=(fieldsK v j).length:=by have:=ho6.len;simpa [strsV] using this.symm
 have hk6:Rd 1 H6 a l (strsV own):=hk.fr' hF6 (by simp)
 refine ⟨fun w H'=>H'=H6∧∃ i:Nat,w=[.int .i64 i]∧i≤l∧ownE ((fieldsK v j).map (tx t)) (own.take i) (own.drop i)=ownE ((fieldsK v j).map (tx t)) [] own,fun w _=>match w with
  | [.int _ i]=>(l-i).toNat
  | _=>0,⟨rfl,0,rfl,Nat.zero_le _,by simp⟩,?_⟩
 rintro w H7 ⟨rfl,i,rfl,hi,hown⟩ _
 refine ⟨_,rfl,?_⟩
 rw [cond_dec]
 refine ite_i (fun hlt=>?_) fun hlt=>?_
 ·have hlt':i<own.length:=by omega
  obtain ⟨p,hlt2,rfl,hcell⟩:=hk6.str (i:=(i:Int)) (by omega) hlt
  simp only [Int.toNat_natCast] at hcell hlt2
  have e1:IntKind.wrap .i64 ((i:Int)+1)=((i+1:Nat):Int):=by rw [wrap64_id (by omega) (by omega)];omega
  have ed:own.drop i=own[i] :: own.drop (i+1):=List.drop_eq_getElem_cons hlt'
  have et:own.take (i+1)=own.take i++[own[i]]:=by rw [List.take_add_one];simp [hlt']
  have eg:own[i]?=some own[i]:=List.getElem?_eq_getElem hlt'
  rw [ed,ownE] at hown
  refine ⟨⟨by omega,hlt⟩,_,rfl,_,by rw [Int.toNat_natCast,Nat.mul_one];exact hcell,fieldName_r ⟨_,rfl,?_⟩⟩
  rw [←decide_not,cond_dec]
  refine ite_i (fun h5=>?_) fun h5=>?_
  ·rw [if_pos h5] at hown
   rw [if_pos (by rw [←hown];decide),←hown] at h
   exact h _ hF6
  rw [if_neg h5] at hown
  refine seek (xs:=own) hk6 hk6 eg hi hlk hl (fun hin=>?_) fun hnin=>?_
  ·rw [if_pos hin] at hown
   rw [if_pos (by rw [←hown];decide),←hown] at h
   exact h _ hF6
  rw [if_neg hnin] at hown
  refine seek (xs:=(fieldsK v j).map (tx t)) ho6.rd hk6 eg (Nat.le_refl _) (by omega) hl (fun hin=>?_) fun hnin2=>?_
  ·rw [List.take_of_length_le (by simp;omega)] at hin
   rw [if_pos hin] at hown
   rw [if_pos (by rw [←hown];decide),←hown] at h
   exact h _ hF6
  rw [List.take_of_length_le (by simp;omega)] at hnin2
  rw [if_neg hnin2] at hown
  rw [e1]
  exact ⟨⟨rfl,i+1,rfl,by omega,by rw [et];exact hown⟩,by simp;omega⟩
 ·have hil:i=own.length:=by omega
  rw [hil,List.drop_length] at hown
  have h0:ownE ((fieldsK v j).map (tx t)) [] own=0:=by rw [←hown];rfl
  rw [if_neg (by rw [h0];decide)] at h
  have ew:IntKind.wrap .i64 ((l6:Int)+(l:Int))=(l6:Int)+l:=wrap64_id (by omega) (by omega)
  rw [ew,cond_dec]
  refine ite_i (fun h5=>?_) fun h5=>?_
  ·rw [if_pos (by omega)] at h;exact h _ hF6
  rw [if_neg (by omega)] at h
  refine all_r (hK.nil hF6) hv.ks fun a8 l8 c8 G8 H8 ho8 hf8 hG8=>⟨_,_,_,rfl,?_⟩
  have hl8:l8=v.cls.length:=by have:=ho8.len;simpa [intsV,oopsK] using this.symm
  rw [cond_dec]
  refine ite_i (fun h6=>?_) fun h6=>?_
  ·rw [if_pos (by omega)] at h;exact h H8 (hF6.trans hf8)
  rw [if_neg (by omega)] at h
  exact h H8 (hF6.trans hf8)
theorem begin_r (hK:RK H b F s t) (h:∀ H' nb,RK H' b F s t→Blk H' nb #[.int .i64 (t.texts.length:Int),.int .i64 s.h.mark,.int .i64 (s.stack.length:Int)]→nb∉F→Fr [] H H'→H.size≤nb→Q (.pointer (some ⟨nb,0,none⟩)) H'):callS PP n_k116 #[.pointer (some ⟨b,0,none⟩)] Q H:=by
 apply k116_ok
 unfold k116 A0 iV pV lV cS
 obtain ⟨tb,F2,hc2,hT,_⟩:=hK.tb
 obtain ⟨sb,hb,F1,hc,c0,hR,_⟩:=hK.hp
 obtain ⟨sb',F3,hc',hS,_⟩:=hK.sp
 have esb:sb'=sb:=by rw [hc] at hc';simpa using hc'.symm
 subst esb
 obtain ⟨_,a,l,c,_,F4,_,_,_,_,_,_,_,_,hB,_,hO,_⟩:=hS
 have hcS:cellH H ⟨sb',2,none⟩=some (.slice a l c):=hB.cell 2
 have hl:l=s.stack.length:=by have:=hO.len;simpa [intsV] using this.symm
 subst hl
 refine ⟨_,rfl,_,hc2,_,rfl,_,hc,_,rfl,_,c0,_,rfl,_,hc,_,rfl,_,_,_,by rw [add_none];exact hcS,tcount_c hT ⟨_,rfl,⟨⟨by rw [add_none];exact hcS,trivial⟩,⟨hc,trivial⟩,⟨c0,trivial⟩,⟨hc,trivial⟩,trivial⟩,rmarked_c hR ⟨_,rfl,⟨⟨by rw [add_none];exact hcS,trivial⟩,⟨hc,trivial⟩,trivial⟩,trivial,?_⟩⟩⟩
 have hf2:=Fr.push [] H (.cells #[.int .i64 (t.texts.length:Int),.int .i64 s.h.mark,.int .i64 (s.stack.length:Int)] 257)
 exact h _ H.size (hK.nil hf2) (Blk.new _ _ _) (fun hm=>absurd (hK.lt _ hm) (Nat.lt_irrefl _)) hf2 (Nat.le_refl _)
end
section
variable {H:Heap}{b:Nat}{F:Foot}{s:SP}{t:TB}{v:KV}{Q:QT}
theorem end_r (hK:RK H b F s t){nb:Nat}{cnt mk kp:Int} (hN:Blk H nb #[.int .i64 cnt,.int .i64 mk,.int .i64 kp]) (hnb:nb∉F) (hkp:0≤kp∧kp≤1000000){e:Int} (h:∀ H' F',RK H' b F' (kEnd s t mk cnt kp e).1 (kEnd s t mk cnt kp e).2→Up F H F' H'→Q (.int .i64 e) H') :
  callS PP n_k123 #[.pointer (some ⟨b,0,none⟩),.pointer (some ⟨nb,0,none⟩),.int .i64 e] Q H:=by
 have hmany:=hK.wfs.many
 apply k123_ok
 unfold k123 iV wW pV lV cS
 unfold kEnd at h
 obtain ⟨sb,F1,hc,hS,hsub,_,hup⟩:=hK.sp
 have hS':=hS
 obtain ⟨_,a,l,c,_,F4,_,_,_,_,_,_,_,_,hB,_,hO,_⟩:=hS'
 have hcS:cellH H ⟨sb,2,none⟩=some (.slice a l c):=hB.cell 2
 have hl:l=s.stack.length:=by have:=hO.len;simpa [intsV] using this.symm
 subst hl
 have ew:IntKind.wrap .i64 ((s.stack.length:Int)-kp)=(s.stack.length:Int)-kp:=wrap64_id (by omega) (by omega)
 refine ⟨_,rfl,_,hc,_,rfl,_,hc,_,rfl,_,_,_,by rw [add_none];exact hcS,_,rfl,_,hN.cell 2,?_⟩
 rw [ew]
 refine rsDrop_c hS fun H2 F2 hS2 hu2=>⟨_,rfl,trivial,?_⟩
 obtain ⟨F',hK2,hu2'⟩:=hup H2 F2 _ hS2 hu2
 rw [beqI,cond_dec]
 refine ite_i (fun h1=>?_) fun h1=>?_
 ·rw [if_pos h1] at h
  have:=h H2 F' hK2 hu2'
  rw [h1] at this;exact this
 rw [if_neg h1] at h
 have hN2:=hN.fr hu2'.1 hnb
 have hnb2:=Up.out hu2' hnb hN.lt
 obtain ⟨tb,F3,hc3,hT,hsub3,_,hup3⟩:=hK2.tb
 refine ⟨_,rfl,_,hc3,_,rfl,_,hN2.cell 0,tback_c hT fun H3 F4 hT3 hu3=>⟨_,rfl,trivial,?_⟩⟩
 obtain ⟨F5,hK3,hu3'⟩:=hup3 H3 F4 _ hT3 hu3
 have hN3:=hN2.fr hu3'.1 hnb2
 have hu23:=hu2'.trans hu3'
 have ed:(s.drop ((s.stack.length:Int)-kp)).2.h=s.h:=by unfold SP.drop;split <;> rfl
 rw [bneI,cond_dec]
 refine ite_i (fun h2=>?_) fun h2=>?_
 ·rw [if_neg h2] at h
  obtain ⟨sb4,hb4,F6,hc4,c04,hR4,hsub4,_,hup4⟩:=hK3.hp
  refine ⟨_,rfl,_,hc4,_,rfl,_,c04,_,rfl,_,hN3.cell 1,rmarks_c hR4 fun H5 hR5 hf5=>⟨_,rfl,trivial,?_⟩⟩
  obtain ⟨F7,hK5,hu5⟩:=hup4 H5 F6 _ hR5 ⟨hf5,fun _ h=>.inl h⟩
  simp only [ed] at hK5
  exact h H5 F7 hK5 (hu23.trans hu5)
 ·have h24:e=24:=Classical.byContradiction h2
  rw [if_pos h24] at h
  refine h H3 F5 ?_ hu23
  generalize (s.drop ((s.stack.length:Int)-kp)).2=s' at *
  cases s'
  simp only at ed
  subst ed
  exact hK3
theorem symbols_r (hK:RK H b F s t){a:Option Addr}{l c:Nat}{own:List ByteArray} (hr:Rd 1 H a l (strsV own)) (hout:Outs H a l F) (hlk:l≤100000000)
  (h:∀ H' F' a' l' c' G,RK H' b F' s (t.addAll [] own).2→Up F H F' H'→Own 1 H' a' l' c' (intsV (t.addAll [] own).1.1) G→(∀ x∈G,H.size≤x∧x∉F')→Q (.tuple #[.slice a' l' c',.int .i64 (t.addAll [] own).1.2]) H') :
  callS PP n_k117 #[.pointer (some ⟨b,0,none⟩),.slice a l c] Q H:=by
 have hs1:sliceInfo PP 108=some (1,8,some (.int .i64 0)):=by kernel_rfl
 have hl:l=own.length:=by have:=hr.1;simpa [strsV] using this.symm
 apply k117_ok
 unfold k117 A0 iV wW pV sV lV cS
 refine ⟨fun w H'=>∃(i:Nat) (t':TB) (acc:List Int) (a':Option Addr) (l' c':Nat) (G F':Foot),w=[.slice a' l' c',.int .i64 i]∧i≤own.length∧RK H' b F' s t'∧Up F H F' H'∧t'.addAll acc (own.drop i)=t.addAll [] own∧Own 1 H' a' l' c' (intsV acc) G∧(∀ x∈G,H.size≤x∧x∉F')∧acc.length=i,fun w _=>match w with
  | [_,.int _ i]=>(own.length-i).toNat
  | _=>0,⟨0,t,[],none,0,0,[],F,rfl,Nat.zero_le _,hK,Up.refl _ _,rfl,by simpa [intsV] using Own.nil 1 H,by simp,rfl⟩,?_⟩
 rintro w H2 ⟨i,t2,acc,a2,l2,c2,G,F2,rfl,hi,hK2,hu2,hadd,ho,hG,hacc⟩ _
 have hl2:l2=i:=by have:=ho.len;simp only [intsV,List.length_map] at this;omega
 refine ⟨_,_,_,_,rfl,?_⟩
 rw [cond_dec]
 refine ite_i (fun hlt=>?_) fun hlt=>?_
 ·obtain ⟨p,hlt2,rfl,hcell⟩:=(hout.rd hu2 hr).str (i:=(i:Int)) (by omega) hlt
  simp only [Int.toNat_natCast] at hcell hlt2
  have e1:IntKind.wrap .i64 ((i:Int)+1)=((i+1:Nat):Int):=by rw [wrap64_id (by omega) (by omega)];omega
  have ed:own.drop i=own[i] :: own.drop (i+1):=List.drop_eq_getElem_cons hlt2
  rw [ed,TB.addAll] at hadd
  obtain ⟨tb,F3,hc3,hT,hsub3,_,hup3⟩:=hK2.tb
  refine ⟨_,rfl,_,hc3,⟨by omega,hlt⟩,_,rfl,_,by rw [Int.toNat_natCast,Nat.mul_one];exact hcell,tadd_c hT fun H3 F4 hT3 hu3=>⟨_,_,rfl,trivial,?_⟩⟩
  obtain ⟨F5,hK3,hu3'⟩:=hup3 H3 F4 _ hT3 hu3
  rw [bneI,cond_dec]
  refine ite_i (fun h3=>?_) fun h3=>?_
  ·rw [if_pos h3] at hadd
   rw [←hadd] at h
   exact h H3 F5 none 0 0 [] hK3 (hu2.trans hu3') (Own.nil 1 _) (by simp)
  rw [if_neg h3] at hadd
  have hz3:(t2.add own[i]).1.2=0:=Classical.byContradiction h3
  obtain ⟨n,en,en2,_⟩:=add_ok own[i] hz3
  have hw3:=hK3.wft
  have h5:=(tx_some en2).2
  have h6:=hw3.m1
  have h7:=hw3.len
  rw [en] at hadd ⊢
  refine refSym_c ⟨by omega,by omega⟩ ⟨_,rfl,?_⟩
  have hoG:∀ x∈G,x<H2.size:=ho.lt
  have ho3:Own 1 H3 a2 l2 c2 (intsV acc) G:=ho.fr hu3'.1 fun x hx=>(hG x hx).2
  refine evS_append1 hs1 rfl (by kernel_rfl) ho3 rfl (by simp [oneC]) (by omega) (by decide) (by decide) fun a' c' G2 H4 g1 g2 g3=>⟨_,_,_,rfl,?_⟩
  rw [e1]
  have hG3:∀ x∈G,H.size≤x∧x∉F5:=fun x hx=>⟨(hG x hx).1,Up.out hu3' (hG x hx).2 (hoG x hx)⟩
  have hF5lt:=hK3.lt
  have hK4:RK H4 b F5 s (t2.add own[i]).2:=hK3.fr g2.1 fun x hx hm=>(hG3 x hm).2 hx
  have hu4:Up F H F5 H4:=by
   have h12:=hu2.trans hu3'
   refine ⟨⟨Nat.le_trans h12.1.1 g2.1.1,fun x hx hn=>?_⟩,h12.2⟩
   rw [g2.1.2 x (Nat.lt_of_lt_of_le hx h12.1.1) (fun hm=>by have:=(hG3 x hm).1;omega),h12.1.2 x hx hn]
  refine ⟨⟨i+1,_,_,a',l2+1,c',G2,F5,rfl,by omega,hK4,hu4,hadd,?_,fun x hx=>?_,by simp [hacc]⟩,by simp;omega⟩
  ·rw [intsV_append];exact g1
  ·rcases g2.2 x hx with h5 | h5
   ·exact hG3 x h5
   ·exact ⟨Nat.le_trans (hu2.trans hu3').1.1 h5,fun hm=>by have:=hF5lt x hm;omega⟩
 ·have hil:i=own.length:=by omega
  rw [hil,List.drop_length,TB.addAll] at hadd
  rw [←hadd] at h
  exact h H2 F2 a2 l2 c2 G hK2 hu2 ho hG
theorem layB_r (hK:RK H b F s t){o:Int}{a:Option Addr}{l c:Nat}{ws:List Int} (hk:Rd 1 H a l (intsV ws)) (hout:Out H a F) (hlk:l≤1000000000)
  (h:∀ H' F',RK H' b F' { s with h:=s.h.lay o 0 ws } t→Up F H F' H'→(∀ o,cellH H' ⟨b,o,none⟩=cellH H ⟨b,o,none⟩)→Q (.tuple #[]) H'):callS PP n_k61 #[.pointer (some ⟨b,0,none⟩),.int .i64 o,.slice a l c] Q H:=by
 have hl:l=ws.length:=by have:=hk.1;simpa [intsV] using this.symm
 apply k61_ok
 unfold k61 iV wW pV cS
 refine ⟨fun w H'=>∃(i:Nat) (r:RH) (F':Foot),w=[.int .i64 i]∧i≤ws.length∧RK H' b F' { s with h:=r } t∧Up F H F' H'∧(∀ o,cellH H' ⟨b,o,none⟩=cellH H ⟨b,o,none⟩)∧r.lay o i (ws.drop i)=s.h.lay o 0 ws,fun w _=>match w with
  | [.int _ i]=>(ws.length-i).toNat
  | _=>0,⟨0,s.h,F,rfl,Nat.zero_le _,hK,Up.refl _ _,fun _=>rfl,rfl⟩,?_⟩
 rintro w H4 ⟨i,r,F4,rfl,hi,hK4,hu4,hce,hlay⟩ _
 refine ⟨_,rfl,?_⟩
 rw [cond_dec]
 refine ite_i (fun hlt=>?_) fun hlt=>?_
 ·obtain ⟨p,rfl,hcell,hlt2⟩:=(hout.rd hu4 hk).int (i:=(i:Int)) (by omega) hlt
  rw [Int.toNat_natCast] at hcell hlt2
  have hx:ws.getD i 0=ws[i]:=by simp [hlt2]
  rw [hx] at hcell
  have ed:ws.drop i=ws[i] :: ws.drop (i+1):=List.drop_eq_getElem_cons hlt2
  have e:IntKind.wrap .i64 ((i:Int)+1)=((i+1:Nat):Int):=by rw [wrap64_id (by omega) (by omega)];omega
  obtain ⟨sb,hb,F1,hc,c0,hR,hsub,hbn,hup⟩:=hK4.hp
  have hbl:=hK4.lt b hK4.bmem
  refine ⟨_,rfl,_,hc,_,rfl,_,c0,⟨by omega,hlt⟩,_,rfl,_,by rw [Int.toNat_natCast,Nat.mul_one];exact hcell,rput_c hR fun H6 hR6 hf6=>⟨_,rfl,trivial,?_⟩⟩
  obtain ⟨F7,hK7,hu7⟩:=hup H6 F1 _ hR6 ⟨hf6,fun _ h=>.inl h⟩
  rw [e]
  refine ⟨⟨i+1,(r.put o i ws[i]).2,F7,rfl,by omega,hK7,hu4.trans hu7,fun o=>by rw [cell_fr hf6 hbn hbl];exact hce o,?_⟩,by simp;omega⟩
  rw [←hlay,ed]
  rfl
 ·have hil:i=ws.length:=by omega
  subst hil
  rw [List.drop_length] at hlay
  simp only [RH.lay] at hlay
  rw [hlay] at hK4
  exact h H4 F4 hK4 hu4 hce
theorem lay_r (hK:RK H b F s t){o:Int}{a:Option Addr}{l c:Nat}{ws:List Int} (hk:Rd 1 H a l (intsV ws)) (hout:Out H a F) (hlk:l≤1000000000)
  (h:∀ H' F',RK H' b F' { s with h:=s.h.lay o 0 ws } t→Up F H F' H'→Q (.tuple #[]) H'):callS PP n_k61 #[.pointer (some ⟨b,0,none⟩),.int .i64 o,.slice a l c] Q H :=
 layB_r hK hk hout hlk fun H' F' h1 h2 _=>h H' F' h1 h2
theorem made_r (hK:RK H b F s t){cls:Int} (hcls:1≤cls∧cls≤65536){a:Option Addr}{l c:Nat}{ws:List Int} (hk:Rd 1 H a l (intsV ws)) (hout:Out H a F) (hlk:l≤1000000000) (hne:cls=11→ws≠[])
  (h:∀ H' F',RK H' b F' (s.make cls ws).2 t→Up F H F' H'→Q (.tuple #[.int .i64 (s.make cls ws).1.1,.int .i64 (s.make cls ws).1.2]) H'):callS PP n_k121 #[.pointer (some ⟨b,0,none⟩),.int .i64 cls,.slice a l c] Q H:=by
 have hl:l=ws.length:=by have:=hk.1;simpa [intsV] using this.symm
 apply k121_ok
 unfold k121 A0 iV pV lV cS
 unfold SP.make at h
 refine ⟨fun w H'=>w=[]∧H'=H,?_,?_⟩
 ·rw [beqI,cond_dec]
  refine ite_i (fun h1=>?_) fun h1=>⟨rfl,rfl⟩
  rw [beqI,cond_dec]
  refine ite_i (fun h2=>?_) fun h2=>⟨rfl,rfl⟩
  exact absurd (List.eq_nil_of_length_eq_zero (by omega)) (hne h1)
 rintro w H2 ⟨rfl,rfl⟩ _
 obtain ⟨sb,F1,hc,hS,hsub,_,hup⟩:=hK.sp
 refine ⟨rfl,_,rfl,_,hc,refObj_c ⟨by omega,by omega⟩ ⟨_,rfl,⟨⟨hc,trivial⟩,trivial⟩,?_⟩⟩
 rw [hl]
 refine rsAlloc_c hS fun H1 F3 hS1 hu1=>⟨_,_,rfl,trivial,?_⟩
 obtain ⟨F4,hK4,hu4⟩:=hup H1 F3 _ hS1 hu1
 rw [bneI,cond_dec]
 refine ite_i (fun h1=>?_) fun h1=>?_
 ·rw [if_pos h1] at h;exact h _ _ hK4 hu4
 rw [if_neg h1] at h
 have hz:(s.alloc (4*cls) ws.length 0).1.2=0:=Classical.byContradiction h1
 obtain ⟨o,e1,o1,o2,_⟩:=salloc_ok hK.wfs hz
 rw [e1] at h ⊢
 have e2:4*o / 4=o:=by omega
 rw [e2] at h
 generalize (s.alloc (4*cls) ws.length 0).2=s1 at *
 refine refOop13_c (I64_small (by omega) (by omega)) ⟨_,rfl,?_⟩
 rw [refOop_obj o1,←hl]
 refine lay_r hK4 (hout.rd hu4 hk) (hout.up hu4) (by omega) fun H5 F5 hK5 hu5=>⟨rfl,?_⟩
 have fp:=Fr.push [] H5 (.cells #[.int .i64 (4*o)] 36)
 have hcx:∃ sb,cellH H5 ⟨b,0,none⟩=some (.pointer (some ⟨sb,0,none⟩)):=by obtain ⟨sb,_,hc,_⟩:=hK5.sp;exact ⟨sb,hc⟩
 obtain ⟨sb5,hc5⟩:=hcx
 refine ⟨_,rfl,_,hc5,?_⟩
 have hK6:=hK5.nil fp
 obtain ⟨sb6,F6,hc6,hS6,hsub6,_,hup6⟩:=hK6.sp
 have esb:sb6=sb5:=by
  rw [cell_fr fp (by simp) (cell_lt hc5),hc5] at hc6
  simpa using hc6.symm
 subst esb
 refine rsKeep_c hS6 (rd_new (cs:=[4*o])) (by decide) fun H7 F7 hS7 hu7=>⟨_,rfl,?_⟩
 obtain ⟨F8,hK8,hu8⟩:=hup6 H7 F7 _ hS7 hu7
 exact h H7 F8 hK8 ((hu4.trans hu5).trans ((Up.of_nil fp).trans hu8))
theorem madeA_r (hK:RK H b F s t){a:Option Addr}{l c:Nat}{ws:List Int} (hk:Rd 1 H a l (intsV ws)) (hout:Out H a F) (hlk:l≤1000000000)
  (h:∀ H' F',RK H' b F' (s.array ws).2 t→Up F H F' H'→Q (.tuple #[.int .i64 (s.array ws).1.1,.int .i64 (s.array ws).1.2]) H'):callS PP n_k121 #[.pointer (some ⟨b,0,none⟩),.int .i64 11,.slice a l c] Q H:=by
 unfold SP.array at h
 by_cases he:ws=[]
 ·rw [if_pos he] at h
  have hl:l=0:=by have:=hk.1;rw [he] at this;simpa [intsV] using this.symm
  apply k121_ok
  unfold k121 A0 iV pV lV cS
  refine ⟨fun w H'=>False,?_,fun _ _ hf=>hf.elim⟩
  rw [beqI,cond_dec,if_pos rfl,beqI,cond_dec,if_pos (by omega)]
  exact refObj_c (by decide) ⟨_,rfl,h H F hK (Up.refl _ _)⟩
 ·rw [if_neg he] at h
  exact made_r hK (by decide) hk hout hlk (fun _=>he) h
end
theorem Up.mid {F F1 G:Foot}{H H1 H2:Heap} (hu:Up F H F1 H1) (hg:Fr G H1 H2) (hG:∀ x∈G,H.size≤x):Up F H F1 H2 :=
 ⟨⟨Nat.le_trans hu.1.1 hg.1,fun x hx hn=>by rw [hg.2 x (Nat.lt_of_lt_of_le hx hu.1.1) (fun hm=>by have:=hG x hm;omega),hu.1.2 x hx hn]⟩,hu.2⟩
theorem rd_str {H:Heap}{x:ByteArray}{t:TypeId}:Rd 1 (H.push (.cells #[.string x] t)) (some ⟨H.size,0,none⟩) 1 (strsV [x]):=by
 refine ⟨rfl,(fun h=>by cases h),fun p hp k hk=>?_⟩
 cases hp
 rw [add_none,Nat.zero_add,(Blk.new H _ _).cell]
 have:k=0:=by omega
 subst this;rfl
theorem addAll_one (t:TB) (x:ByteArray):t.addAll [] [x]=if (t.add x).1.2≠0 then (([],(t.add x).1.2),(t.add x).2) else (([4*(t.add x).1.1+2],0),(t.add x).2):=by
 rw [TB.addAll]
 split
 ·rfl
 ·rw [TB.addAll];rfl
section
variable {H:Heap}{b:Nat}{F:Foot}{s:SP}{t:TB}{v:KV}{Q:QT}
theorem rappend {H0:Heap}{F0:Foot} (hu:Up F0 H0 F H) (hK:RK H b F s t){a:Option Addr}{l c l2 c2:Nat}{a2:Option Addr}{G:Foot}{ws xs:List Int} (ho:Own 1 H a l c (intsV ws) G) (hG:∀ x∈G,H0.size≤x∧x∉F) (hws:ws.length≤8192) (h2:Rd 1 H a2 l2 (intsV xs)) (hxs:l2≤8192)
  {K:Value→Heap→Prop} (h:∀ a' c' H' G',RK H' b F s t→Up F0 H0 F H'→Own 1 H' a' (l+l2) c' (intsV (ws++xs)) G'→(∀ x∈G',H0.size≤x∧x∉F)→K (.slice a' (l+l2) c') H') :
  evS PP (Builtin.append_ #[108,108] 108 #[.slice a l c,.slice a2 l2 c2]) K H:=by
 have hs1:sliceInfo PP 108=some (1,8,some (.int .i64 0)):=by kernel_rfl
 have hl:l=ws.length:=by have:=ho.len;simpa [intsV] using this.symm
 have hlt:=hK.lt
 refine evS_append hs1 rfl (by kernel_rfl) ho h2 intsV_one (by omega) (by decide) (by decide) fun a' c' G' H' g1 g2 g3=>?_
 rw [←intsV_append] at g1
 refine h a' c' H' G' (hK.fr g2.1 fun x hx hm=>(hG x hm).2 hx) (Up.mid hu g2.1 fun x hx=>(hG x hx).1) g1 fun x hx=>?_
 rcases g2.2 x hx with h5 | h5
 ·exact hG x h5
 ·exact ⟨Nat.le_trans hu.1.1 h5,fun hm=>by have:=hlt x hm;omega⟩
theorem own_out {a:Option Addr}{l c:Nat}{xs:List Value}{G:Foot} (h:Own 1 H a l c xs G) (hd:∀ x∈G,x∉F):Out H a F:=Own.out h fun x hx hm=>hd x hx hm
theorem define_r (hK:RK H b F s t) (hk:KS s v){name:ByteArray}{up:Int} (hup:1≤up∧up≤65536) (hst:s.stack.length<60000){a:Option Addr}{l c:Nat}{own:List ByteArray} (hr:Rd 1 H a l (strsV own)) (hout:Outs H a l F) (hlk:l≤100000000)
  (h:∀ H' F',RK H' b F' (kDef s t v.clsW name up own).2.1 (kDef s t v.clsW name up own).2.2→Up F H F' H'→Q (.tuple #[.int .i64 (kDef s t v.clsW name up own).1.1,.int .i64 (kDef s t v.clsW name up own).1.2]) H') :
  callS PP n_k209 #[.pointer (some ⟨b,0,none⟩),.string name,.int .i64 up,.slice a l c] Q H:=by
 have hm1:=hk.shape.many1
 have hcw:v.clsW.length=v.cls.length:=by simp [KV.clsW]
 apply k209_ok
 unfold k209 A0 iV wW pV sV lV cS
 unfold kDef at h
 have fp:=Fr.push [] H (.cells #[.string name] 9)
 have hup0:Up F H F (H.push (.cells #[.string name] 9)):=Up.of_nil fp
 refine symbols_r (hK.nil fp) (own:=[name]) rd_str (.inr fun p hp=>?_) (by decide) fun H1 F1 a6 l6 c6 G6 hK1 hu1 ho6 hG6=>⟨_,_,_,_,rfl,?_⟩
 ·cases hp
  exact ⟨by simp,fun hm=>absurd (hK.lt _ hm) (Nat.lt_irrefl _)⟩
 have hu01:=hup0.trans hu1
 rw [addAll_one] at hK1 ho6 ⊢
 rw [bneI,cond_dec]
 by_cases h1:(t.add name).1.2=0
 rotate_left
 ·rw [if_pos h1] at h
  rw [if_pos (show (t.add name).1.2≠0 from h1)] at hK1 ⊢
  rw [if_pos h1]
  exact h H1 F1 hK1 hu01
 rw [if_neg (show ¬ (t.add name).1.2≠0 from fun hn=>hn h1)] at hK1 ho6 h ⊢
 rw [if_neg (fun hn=>hn rfl)]
 obtain ⟨nn,en,en2,_⟩:=add_ok name h1
 rw [en] at h ho6
 generalize (t.add name).2=t1 at *
 have hout1:=hout.up hu01
 have hr1:=hout.rd hu01 hr
 have hG6':∀ x∈G6,H.size≤x∧x∉F1:=fun x hx=>⟨Nat.le_trans fp.1 (hG6 x hx).1,(hG6 x hx).2⟩
 refine symbols_r hK1 hr1 hout1 hlk fun H2 F2 a9 l9 c9 G9 hK2 hu2 ho9 hG9=>⟨_,_,_,_,rfl,?_⟩
 have hu02:=hu01.trans hu2
 rw [bneI,cond_dec]
 refine ite_i (fun h2=>?_) fun h2=>?_
 ·rw [if_pos h2] at h;exact h H2 F2 hK2 hu02
 rw [if_neg h2] at h
 have hz2:(t1.addAll [] own).1.2=0:=Classical.byContradiction h2
 obtain ⟨ns,ens,ens2⟩:=addAll_ok [] own hz2
 rw [List.nil_append] at ens
 have hwt2:=hK2.wft
 have hns:∀ n∈ns,n<(t1.addAll [] own).2.texts.length:=fun n hn=>by
  have:(t1.addAll [] own).2.texts[n]?∈own.map some:=by rw [←ens2];exact List.mem_map.2 ⟨n,hn,rfl⟩
  obtain ⟨s,_,hs⟩:=List.mem_map.1 this
  exact (tx_some hs.symm).2
 have hnn:nn<(t1.addAll [] own).2.texts.length:=by
  have h5:=(tx_some en2).2
  obtain ⟨m,e⟩:=(addAll_pre t1 [] own).2
  rw [e,List.length_append];omega
 have hws:∀ w∈(t1.addAll [] own).1.1,isW w:=fun w hw=>by
  rw [ens] at hw
  obtain ⟨x,hx,rfl⟩:=List.mem_map.1 hw
  exact isW_sym hwt2 (hns x hx)
 have hl9:l9≤1000000000:=by
  have e1:=ho9.len
  have e2:ns.length=own.length:=by have:=congrArg List.length ens2;simpa using this
  rw [ens] at e1
  simp only [intsV,List.length_map] at e1
  have e3:l=own.length:=by have:=hr.1;simpa [strsV] using this.symm
  omega
 unfold kDef1 at h
 generalize (t1.addAll [] own).1.1=acc at *
 generalize (t1.addAll [] own).2=t2 at *
 obtain ⟨a1,a2,⟨m1,a3,a3'⟩,a4⟩:=array_ok hk (by omega) hws
 refine madeA_r hK2 ho9.rd (own_out ho9 fun x hx=>(hG9 x hx).2) hl9 fun H3 F3 hK3 hu3=>⟨_,_,rfl,?_⟩
 have hu03:=hu02.trans hu3
 rw [bneI,cond_dec]
 refine ite_i (fun h3=>?_) fun h3=>?_
 ·rw [if_pos h3] at h;exact h H3 F3 hK3 hu03
 rw [if_neg h3] at h
 have hz3:(s.array acc).1.2=0:=Classical.byContradiction h3
 obtain ⟨lo,elo,lo1,lo2,_⟩:=a4 hz3
 rw [elo] at h ⊢
 generalize (s.array acc).2=s1 at *
 obtain ⟨e0,b0,b1⟩:=KS.s0 a1
 refine root_r hK3 a1 e0 b0 b1 ⟨_,rfl,words_r hK3 fun aw lw cw Gw H6 how hf6 hGw=>⟨_,_,_,rfl,?_⟩⟩
 rw [show kwords s1.h v.clsA=v.clsW from a1.view.all.kwords] at how
 have hlw:lw=v.clsW.length:=by have:=how.len;simpa [intsV] using this.symm
 have hK6:=hK3.nil hf6
 have hl6:l6=1:=by have:=ho6.len;simpa [intsV] using this.symm
 have hout6:Out H1 a6 F1:=own_out ho6 fun x hx=>(hG6 x hx).2
 have hr6:=(hout6.rd ((hu2.trans hu3).trans (Up.of_nil hf6)) ho6.rd)
 obtain ⟨q6,hq6,hcell6,_⟩:=hr6.int (i:=0) (by decide) (by omega)
 subst hq6
 have hcell6':cellH H6 (q6.add (Int.toNat 0*1))=some (.int .i64 (4*(nn:Int)+2)):=by simpa using hcell6
 have ew:IntKind.wrap .i64 ((lw:Int)+1)=(lw:Int)+1:=wrap64_id (by omega) (by omega)
 refine ⟨⟨Int.le_refl 0,by omega⟩,_,rfl,_,hcell6',refObj_c ⟨by omega,by omega⟩ ⟨_,rfl,⟨⟨hcell6',trivial⟩,trivial⟩,refObj_c (by decide) ⟨_,rfl,⟨⟨hcell6',trivial⟩,trivial⟩,refObj_c (by decide) ⟨_,rfl,⟨⟨hcell6',trivial⟩,trivial⟩,refInt_c (by decide) ⟨_,rfl,⟨⟨hcell6',trivial⟩,trivial⟩,?_⟩⟩⟩⟩⟩
 rw [ew]
 refine refInt_c ⟨by omega,by omega⟩ ⟨_,rfl,⟨⟨hcell6',trivial⟩,trivial⟩,trivial,?_⟩
 unfold kDef2 at h
 have hws2:=clsSlots_words (n:=4*(nn:Int)+2) (up:=up) (l:=4*lo) (k:=v.clsW.length) (isW_sym hwt2 hnn) (isW_obj hup.1 hup.2) (isW_obj lo1 lo2) (by omega)
 obtain ⟨k1,k2,k3,k4⟩:=make_ok a1 (by rw [a3,List.length_append];omega) (cls:=12) (by decide) hws2
 have fp6:=Fr.push [] H6 (.cells (intsV (clsSlots (4*(nn:Int)+2) up (4*lo) v.clsW.length)).toArray 36)
 have hlt6:=hK6.lt
 rw [hlw]
 refine made_r (s:=s1) (ws:=clsSlots (4*(nn:Int)+2) up (4*lo) v.clsW.length) (hK6.nil fp6) (by decide) rd_new
  (fun p hp=>by cases hp;exact ⟨by simp,fun hm=>absurd (hlt6 _ hm) (Nat.lt_irrefl _)⟩) (by decide) (fun h=>absurd h (by decide)) fun H7 F7 hK7 hu7=>⟨_,_,rfl,trivial,?_⟩
 have hu07:=(hu03.trans (Up.of_nil hf6)).trans ((Up.of_nil fp6).trans hu7)
 rw [bneI,cond_dec]
 refine ite_i (fun h4=>?_) fun h4=>?_
 ·rw [if_pos h4] at h;exact h H7 F7 hK7 hu07
 rw [if_neg h4] at h
 have hz4:(s1.make 12 (clsSlots (4*(nn:Int)+2) up (4*lo) v.clsW.length)).1.2=0:=Classical.byContradiction h4
 obtain ⟨cc,ec,est,cc1,cc2,_⟩:=k4 hz4
 rw [ec] at h ⊢
 generalize (s1.make 12 (clsSlots (4*(nn:Int)+2) up (4*lo) v.clsW.length)).2=s2 at *
 unfold kDef3 at h
 have hGw':∀ x∈Gw,H.size≤x∧x∉F7:=fun x hx=>by
  have h5:=hGw x hx
  refine ⟨Nat.le_trans hu03.1.1 h5,Up.out ((Up.of_nil fp6).trans hu7) (fun hm=>by have:=hK3.lt x hm;omega) (how.lt x hx)⟩
 have how7:Own 1 H7 aw lw cw (intsV v.clsW) Gw:=(how.fr fp6 (by simp)).fr hu7.1 fun x hx hm=>by
  have h5:=hGw x hx
  have:=hK3.lt x hm
  omega
 have fp7:=Fr.push [] H7 (.cells #[.int .i64 (4*cc)] 36)
 subst hlw
 refine rappend (hu07.trans (Up.of_nil fp7)) (hK7.nil fp7) (how7.fr fp7 (by simp)) hGw' (by omega) (rd_new (cs:=[4*cc])) (by simp) fun a8 c8 H8 G8 hK8 hu8 ho8 hG8=>⟨_,_,_,rfl,?_⟩
 refine madeA_r hK8 ho8.rd (own_out ho8 fun x hx=>(hG8 x hx).2) (by simp;omega) fun H9 F9 hK9 hu9=>⟨_,_,rfl,?_⟩
 have hws3:∀ w∈v.clsW++[4*cc],isW w:=fun w hw=>by
  rcases List.mem_append.1 hw with hw | hw
  ·exact clsW_words hk w hw
  ·simp only [List.mem_singleton] at hw;rw [hw];exact isW_obj cc1 cc2
 obtain ⟨x1,x2,x3,x4⟩:=array_ok k1 (by rw [est,a3];simp;omega) hws3
 rw [bneI,cond_dec]
 refine ite_i (fun h5=>?_) fun h5=>?_
 ·rw [if_pos h5] at h;exact h H9 F9 hK9 (hu8.trans hu9)
 rw [if_neg h5] at h
 obtain ⟨sb,Fs,hcs,hS,hsub,_,hup9⟩:=hK9.sp
 refine ⟨_,rfl,_,hcs,rsSetRoot_c hS fun HA hSA hfA=>⟨_,rfl,refOop13_c (I64_small (by omega) (by omega)) ⟨_,rfl,?_⟩⟩⟩
 obtain ⟨FA,hKA,huA⟩:=hup9 HA Fs _ hSA ⟨hfA,fun _ h=>.inl h⟩
 have:=h HA FA hKA ((hu8.trans hu9).trans huA)
 rw [refOop_obj cc1]
 have e4:4*cc / 4=cc:=by omega
 simp only [e4] at this
 exact this
theorem define0_r (hK:RK H b F s t) (hv:KAll s t v){name sup:ByteArray}{a:Option Addr}{l c:Nat}{own:List ByteArray} (hr:Rd 1 H a l (strsV own)) (hout:Outs H a l F) (hlk:l≤1000000000000000)
  (h:∀ H' F',RK H' b F' (kDefineAll s v t name sup own).2.1 (kDefineAll s v t name sup own).2.2→Up F H F' H'→Q (.tuple #[.int .i64 (kDefineAll s v t name sup own).1.1,.int .i64 (kDefineAll s v t name sup own).1.2]) H') :
  callS PP n_k103 #[.pointer (some ⟨b,0,none⟩),.string name,.string sup,.slice a l c] Q H:=by
 apply k103_ok
 unfold k103 iV pV sV lV cS
 unfold kDefineAll at h
 refine refused_r hK hv hr (by omega) fun H1 hf1=>⟨_,_,rfl,?_⟩
 rw [bneI,cond_dec]
 refine ite_i (fun h1=>?_) fun h1=>?_
 ·rw [if_pos h1] at h;exact h H1 F (hK.nil hf1) (Up.of_nil hf1)
 rw [if_neg h1] at h
 obtain ⟨j,hj,ej,hlt,hno,_,_⟩:=defK_ok hv (Classical.byContradiction h1)
 rw [ej] at h ⊢
 have hb:=up_arr hv.ks hj
 have hst:s.stack.length<60000:=by rw [hv.stack];decide
 refine begin_r (hK.nil hf1) fun H2 nb hK2 hN hnb hf2 hge=>⟨_,rfl,?_⟩
 have hu2:Up F H F H2:=Up.of_nil (hf1.trans hf2)
 have hl32:=defK_len (Classical.byContradiction h1)
 refine define_r hK2 hv.ks hb hst (hout.rd hu2 hr) (hout.up hu2) (by have:=hr.1;simp only [strsV,List.length_map] at this;omega) fun H3 F3 hK3 hu3=>⟨_,_,rfl,?_⟩
 refine end_r hK3 (hN.fr hu3.1 hnb) (Up.out hu3 hnb hN.lt) ⟨by omega,by omega⟩ fun H4 F4 hK4 hu4=>⟨_,rfl,?_⟩
 have:=h H4 F4 hK4 ((hu2.trans hu3).trans hu4)
 unfold kDefine at this
 rw [bneI,cond_dec]
 refine ite_i (fun h2=>?_) fun h2=>?_
 ·rw [if_neg h2] at this;exact this
 ·have hz:=Classical.byContradiction h2
  rw [if_pos hz] at this
  have e0:(kDef s t v.clsW name (v.cls[j]).oop own).1.2=0:=hz
  rw [e0] at this
  exact this
theorem global_r (hK:RK H b F s t) (hv:KAll s t v){name:ByteArray}
  (h:∀ H' F',RK H' b F' (kGlobalAll s v t name).2.1 (kGlobalAll s v t name).2.2→Up F H F' H'→Q (.int .i64 (kGlobalAll s v t name).1) H') :
  callS PP n_k27 #[.pointer (some ⟨b,0,none⟩),.string name] Q H:=by
 have hg:=hv.ks.shape.globs
 obtain ⟨e0,b0,b1⟩:=KS.s1 hv.ks
 apply k27_ok
 unfold k27 A0 iV pV sV lV cS
 unfold kGlobalAll globK at h
 refine className_r ⟨_,rfl,?_⟩
 rw [←decide_not,cond_dec]
 refine ite_i (fun h1=>?_) fun h1=>?_
 ·rw [if_pos h1,if_pos (by decide)] at h;exact h H F hK (Up.refl _ _)
 rw [if_neg h1] at h
 refine taken_r hK hv fun H2 hF2=>⟨_,rfl,?_⟩
 rw [cond_dec]
 refine ite_i (fun h2=>?_) fun h2=>?_
 ·rw [if_pos h2,if_pos (by decide)] at h;exact h H2 F (hK.nil hF2) (Up.of_nil hF2)
 rw [if_neg h2] at h
 refine globals_r (hK.nil hF2) hv fun a l c G H3 ho hf3 hG=>⟨_,_,_,rfl,?_⟩
 have hF3:=hF2.trans hf3
 have hl:l=v.glob.length:=by have:=ho.len;simpa [strsV,globsK] using this.symm
 rw [cond_dec]
 refine ite_i (fun h3=>?_) fun h3=>?_
 ·rw [if_pos (show 256≤v.glob.length by omega),if_pos (by decide)] at h;exact h H3 F (hK.nil hF3) (Up.of_nil hF3)
 rw [if_neg (show ¬ 256≤v.glob.length by omega),if_neg (by decide)] at h
 refine begin_r (hK.nil hF3) fun H4 nb hK4 hN hnb hf4 hge=>⟨_,rfl,?_⟩
 have hF4:=hF3.trans hf4
 unfold kGlobal at h
 have hst:s.stack.length<60000:=by rw [hv.stack];decide
 have fp:=Fr.push [] H4 (.cells #[.string name] 9)
 have hu4:Up F H F (H4.push (.cells #[.string name] 9)):=Up.of_nil (hF4.trans fp)
 have fin:∀ (R:Int × SP × TB) (H5:Heap) (F5:Foot),kGlob s t (globW v.glob) name=R→RK H5 b F5 R.2.1 R.2.2→Up F H4 F5 H5→callS PP n_k123 #[.pointer (some ⟨b,0,none⟩),.pointer (some ⟨nb,0,none⟩),.int .i64 R.1] (fun v37 H13=>∃ n38:Int,v37=.int .i64 n38∧Q (.int .i64 n38) H13) H5:=by
  intro R H5 F5 eR hK5 hu5
  rw [eR] at h
  exact end_r hK5 (hN.fr hu5.1 hnb) (Up.out hu5 hnb hN.lt) ⟨by omega,by omega⟩ fun H6 F6 hK6 hu6=>⟨_,rfl,h H6 F6 hK6 (((Up.of_nil hF4).trans hu5).trans hu6)⟩
 refine symbols_r (hK4.nil fp) (own:=[name]) rd_str (.inr fun p hp=>?_) (by decide) fun H5 F5 a6 l6 c6 G6 hK5 hu5 ho6 hG6=>⟨_,_,_,_,rfl,?_⟩
 ·cases hp
  exact ⟨by simp,fun hm=>absurd (hK4.lt _ hm) (Nat.lt_irrefl _)⟩
 have hu45:Up F H4 F5 H5:=(Up.of_nil fp).trans hu5
 rw [addAll_one] at hK5 ho6 ⊢
 rw [beqI,cond_dec]
 by_cases h5:(t.add name).1.2=0
 rotate_left
 ·rw [if_pos (show (t.add name).1.2≠0 from h5)] at hK5 ⊢
  rw [if_neg h5]
  have eR:kGlob s t (globW v.glob) name=((t.add name).1.2,s,(t.add name).2):=by unfold kGlob;rw [if_pos h5]
  have:=fin _ H5 F5 eR hK5 hu45
  exact this
 rw [if_neg (show ¬ (t.add name).1.2≠0 from fun hn=>hn h5)] at hK5 ho6 ⊢
 rw [if_pos rfl]
 obtain ⟨nn,en,en2,_⟩:=add_ok name h5
 have eR:kGlob s t (globW v.glob) name=kGlob1 s (t.add name).2 (globW v.glob) (4*(t.add name).1.1+2):=by unfold kGlob;rw [if_neg (by simpa using h5)]
 rw [en] at eR ho6
 generalize (t.add name).2=t1 at *
 unfold kGlob1 at eR
 have hwt1:=hK5.wft
 have hnn:=(tx_some en2).2
 have hws:∀ w∈globW v.glob++[4*(nn:Int)+2,4],isW w:=fun w hw=>by
  rcases List.mem_append.1 hw with hw | hw
  ·exact globW_words hv.ks w hw
  ·simp only [List.mem_cons,List.not_mem_nil,or_false] at hw
   rcases hw with rfl | rfl
   ·exact isW_sym hwt1 hnn
   ·decide
 have hgl:=globW_len v.glob
 have hl6:l6=1:=by have:=ho6.len;simpa [intsV] using this.symm
 have ho6':∀ {H':Heap},Fr [] H5 H'→∃ q,a6=some q∧cellH H' (q.add (Int.toNat 0*1))=some (.int .i64 (4*(nn:Int)+2)):=by
  intro H' hf'
  obtain ⟨q6,hq6,hcell6,_⟩:=((ho6.fr hf' (by simp)).rd).int (i:=0) (by decide) (by omega)
  exact ⟨q6,hq6,by simpa using hcell6⟩
 obtain ⟨q6,hq6,hc6⟩:=ho6' (Fr.refl _ _)
 subst hq6
 have hcell:∀ {H':Heap},Fr [] H5 H'→cellH H' (q6.add (Int.toNat 0*1))=some (.int .i64 (4*(nn:Int)+2)):=fun hf'=>by
  obtain ⟨q,hq,hc⟩:=ho6' hf'
  cases hq;exact hc
 have kwg:kwords s.h v.globA=globW v.glob:=hv.ks.view.globs.kwords
 have one:∀ {H':Heap},Rd 1 (H'.push (.cells #[.int .i64 (4*(nn:Int)+2)] 36)) (some ⟨H'.size,0,none⟩) 1 (intsV [4*(nn:Int)+2]):=fun {H'}=>rd_new (H:=H') (cs:=[4*(nn:Int)+2])
 have hlt5:=hK5.lt
 have app:∀ {H':Heap}{aw:Option Addr}{lw cw:Nat}{Gw:Foot}{a2:Option Addr}{c2:Nat},Fr [] H5 H'→Own 1 H' aw lw cw (intsV (globW v.glob)) Gw→(∀ x∈Gw,H5.size≤x)→Rd 1 H' a2 1 (intsV [4*(nn:Int)+2])→∀ {K:Value→Heap→Prop} (_:∀ a' l' c' H'' G',RK H'' b F5 s t1→Up F H4 F5 H''→Own 1 H'' a' l' c' (intsV (globW v.glob++[4*(nn:Int)+2])) G'→(∀ x∈G',H4.size≤x∧x∉F5)→K (.slice a' l' c') H''),
   evS PP (Builtin.append_ #[108,108] 108 #[.slice aw lw cw,.slice a2 1 c2]) K H':=by
  intro H' aw lw cw Gw a2 c2 hf' how hGw hr2 K hK'
  exact rappend (hu45.trans (Up.of_nil hf')) (hK5.nil hf') how (fun x hx=>⟨Nat.le_trans hu45.1.1 (hGw x hx),fun hm=>by have:=hlt5 x hm;have:=hGw x hx;omega⟩) (by omega) hr2 (by decide) fun a' c' H'' G' k1 k2 k3 k4=>hK' a' _ c' H'' G' k1 k2 k3 k4
 refine ⟨fun w H'=>∃(a':Option Addr) (l' c':Nat) (G':Foot),w=[.slice a' l' c']∧RK H' b F5 s t1∧Up F H4 F5 H'∧Own 1 H' a' l' c' (intsV (globW v.glob++[4*(nn:Int)+2])) G'∧∀ x∈G',H4.size≤x∧x∉F5,⟨⟨Int.le_refl 0,by omega⟩,_,rfl,_,hc6,?_,?_⟩,?_⟩
 ·refine slot_r hK5 ⟨_,rfl,⟨⟨hc6,trivial⟩,trivial⟩,?_,?_⟩
  ·rw [e0]
   refine refOop13_c (I64_small (by omega) (by omega)) ⟨_,rfl,⟨⟨hc6,trivial⟩,trivial⟩,?_,?_⟩
   ·rw [refOop_obj b0]
    refine words_r hK5 fun aw lw cw Gw H8 how hf8 hGw=>⟨_,_,_,rfl,⟨⟨hcell hf8,trivial⟩,trivial⟩,trivial,?_⟩
    rw [kwg] at how
    have fq:=Fr.push [] H8 (.cells #[.int .i64 (4*(nn:Int)+2)] 36)
    exact app (hf8.trans fq) (how.fr fq (by simp)) hGw one fun a' l' c' H'' G' k1 k2 k3 k4=>⟨_,_,_,rfl,trivial,a',l',c',G',rfl,k1,k2,k3,k4⟩
   ·have fq:=Fr.push [] H5 (.cells #[.int .i64 (4*(nn:Int)+2)] 36)
    rw [refOop_obj b0]
    refine ⟨trivial,words_r (hK5.nil fq) fun aw lw cw Gw H8 how hf8 hGw=>⟨_,_,_,rfl,trivial,?_⟩⟩
    rw [kwg] at how
    exact app (fq.trans hf8) how (fun x hx=>Nat.le_trans fq.1 (hGw x hx)) (one.fr' hf8 (by simp)) fun a' l' c' H'' G' k1 k2 k3 k4=>⟨_,_,_,rfl,trivial,a',l',c',G',rfl,k1,k2,k3,k4⟩
  ·have fq:=Fr.push [] H5 (.cells #[.int .i64 (4*(nn:Int)+2)] 36)
   rw [e0]
   refine ⟨trivial,refOop13_c (I64_small (by omega) (by omega)) ⟨_,rfl,trivial,?_⟩⟩
   rw [refOop_obj b0]
   refine words_r (hK5.nil fq) fun aw lw cw Gw H8 how hf8 hGw=>⟨_,_,_,rfl,trivial,?_⟩
   rw [kwg] at how
   exact app (fq.trans hf8) how (fun x hx=>Nat.le_trans fq.1 (hGw x hx)) (one.fr' hf8 (by simp)) fun a' l' c' H'' G' k1 k2 k3 k4=>⟨_,_,_,rfl,trivial,a',l',c',G',rfl,k1,k2,k3,k4⟩
 ·have fq:=Fr.push [] H5 (.cells #[.int .i64 (4*(nn:Int)+2)] 36)
  refine ⟨trivial,slot_r (hK5.nil fq) ⟨_,rfl,trivial,?_⟩⟩
  rw [e0]
  refine refOop13_c (I64_small (by omega) (by omega)) ⟨_,rfl,trivial,?_⟩
  rw [refOop_obj b0]
  refine words_r (hK5.nil fq) fun aw lw cw Gw H8 how hf8 hGw=>⟨_,_,_,rfl,trivial,?_⟩
  rw [kwg] at how
  exact app (fq.trans hf8) how (fun x hx=>Nat.le_trans fq.1 (hGw x hx)) (one.fr' hf8 (by simp)) fun a' l' c' H'' G' k1 k2 k3 k4=>⟨_,_,_,rfl,trivial,a',l',c',G',rfl,k1,k2,k3,k4⟩
 rintro w H6 ⟨a',l',c',G',rfl,hK6,hu6,ho7,hG7⟩ _
 refine ⟨_,_,_,rfl,refObj_c (by decide) ⟨_,rfl,?_⟩⟩
 rw [show ((4:Int)*1)=4 from rfl]
 have fq:=Fr.push [] H6 (.cells #[.int .i64 4] 36)
 have hr4:Rd 1 (H6.push (.cells #[.int .i64 4] 36)) (some ⟨H6.size,0,none⟩) 1 (intsV [4]):=rd_new (cs:=[4])
 generalize (H6.push (.cells #[.int .i64 4] 36))=H6' at fq hr4 ⊢
 refine rappend (hu6.trans (Up.of_nil fq)) (hK6.nil fq) (ho7.fr fq (by simp)) hG7 (by simp;omega) hr4 (by decide) fun a8 c8 H8 G8 hK8 hu8 ho8 hG8=>⟨_,_,_,rfl,?_⟩
 have ecat:globW v.glob++[4*(nn:Int)+2]++[4]=globW v.glob++[4*(nn:Int)+2,4]:=by simp
 rw [ecat] at ho8
 have hl8:l'+1≤1000000000:=by have:=ho7.len;simp only [intsV,List.length_map,List.length_append,hgl] at this;simp at this;omega
 refine madeA_r hK8 ho8.rd (own_out ho8 fun x hx=>(hG8 x hx).2) hl8 fun H9 F9 hK9 hu9=>⟨_,_,rfl,?_⟩
 obtain ⟨k1,_⟩:=array_ok hv.ks (by omega) hws
 rw [beqI,cond_dec]
 refine ite_i (fun h6=>?_) fun h6=>?_
 ·rw [if_neg (by simpa using h6)] at eR
  obtain ⟨sb,Fs,hcs,hS,hsub,_,hup9⟩:=hK9.sp
  refine ⟨_,rfl,_,hcs,rsSetRoot_c hS fun HA hSA hfA=>⟨_,rfl,?_⟩⟩
  obtain ⟨FA,hKA,huA⟩:=hup9 HA Fs _ hSA ⟨hfA,fun _ h=>.inl h⟩
  have:=fin _ HA FA eR hKA ((hu8.trans hu9).trans huA)
  rw [h6];exact this
 ·rw [if_pos h6] at eR
  have:=fin _ H9 F9 eR hK9 (hu8.trans hu9)
  exact this
end
def planV:List (Int × Int)→List Value
 | []=>[]
 | (c,n) :: l=>.int .i64 c :: .int .i64 n :: planV l
theorem planV_append (l m:List (Int × Int)):planV (l++m)=planV l++planV m:=by
 induction l with
 | nil=>rfl
 | cons x l ih=>obtain ⟨c,n⟩:=x;simp [planV,ih]
theorem planV_len (l:List (Int × Int)):(planV l).length=2*l.length:=by
 induction l with
 | nil=>rfl
 | cons x l ih=>obtain ⟨c,n⟩:=x;simp only [planV,List.length_cons,ih];omega
theorem planV_one (l:List (Int × Int)):∀ v∈planV l,oneC v=true:=by
 induction l with
 | nil=>intro v hv;cases hv
 | cons x l ih =>
  obtain ⟨c,n⟩:=x
  intro v hv
  simp only [planV,List.mem_cons] at hv
  rcases hv with rfl | rfl | hv
  ·rfl
  ·rfl
  ·exact ih v hv
theorem planV_get {l:List (Int × Int)}{i:Nat} (h:i<l.length):(planV l)[i*2]?=some (.int .i64 l[i].1)∧(planV l)[i*2+1]?=some (.int .i64 l[i].2):=by
 induction l generalizing i with
 | nil=>simp at h
 | cons x l ih =>
  obtain ⟨c,n⟩:=x
  cases i with
  | zero=>simp [planV]
  | succ i =>
   have:=ih (i:=i) (by simpa using h)
   have e:(i+1)*2=i*2+2:=by omega
   rw [e]
   simpa [planV] using this
theorem allocAll_cons (r:RH) (x:Int × Int) (l:List (Int × Int)):r.allocAll (x :: l)=if (r.alloc (4*x.1) x.2 0).1.2≠0 then ((r.alloc (4*x.1) x.2 0).1.2,(r.alloc (4*x.1) x.2 0).2) else RH.allocAll (r.alloc (4*x.1) x.2 0).2 l:=by
 obtain ⟨c,n⟩:=x;rfl
theorem bootRH_eq (words oops:Int):bootH (((bootR0 words oops).allocAll bootPlan).2)=bootRH words oops:=rfl
theorem boot_objs {words oops:Int} (hz:((bootR0 words oops).allocAll bootPlan).1=0):((bootR0 words oops).allocAll bootPlan).2.objs=bootL:=by
 rw [allocAll_grow bootPlan (r:=bootR0 words oops) rfl hz];rfl
theorem boot_root {words oops:Int} (hw:WFH (bootRH words oops)) (hz:((bootR0 words oops).allocAll bootPlan).1=0):((bootRH words oops).clsAt 19).2=0:=by
 obtain ⟨x,hx,_⟩:=bootArr hw hz (p:=(19,[80,72,72,72,4,8,12,4])) (by decide)
 unfold RH.clsAt
 simp only at hx
 rw [hx]
attribute [local irreducible] bootRH bootH bootL
section
variable {H:Heap}{Q:QT}
theorem bootPlan_b:∀ i (hi:i<bootPlan.length),1≤(bootPlan[i]).1∧(bootPlan[i]).1≤65536:=by decide
theorem kboot_k {words oops:Int} (hk:Kinds H) (hbad:¬ (0≤words∧words≤1048576∧0≤oops∧oops≤65536)→Q (.tuple #[.pointer none,.int .i64 1]) H)
  (h1:(0≤words∧words≤1048576∧0≤oops∧oops≤65536)→((bootR0 words oops).allocAll bootPlan).1≠0→∀ H',Fr [] H H'→Q (.tuple #[.pointer none,.int .i64 ((bootR0 words oops).allocAll bootPlan).1]) H')
  (h2:(0≤words∧words≤1048576∧0≤oops∧oops≤65536)→((bootR0 words oops).allocAll bootPlan).1=0→∀ b F H',PK H' b F (bootS words oops) bootT→Fr [] H H'→(∀ x∈F,H.size≤x)→Q (.tuple #[.pointer (some ⟨b,0,none⟩),.int .i64 0]) H') :
  callS PP n_k10 #[.int .i64 words,.int .i64 oops] Q H:=by
 have hs1:sliceInfo PP 92=some (2,16,some (.agg #[.int .i64 0,.int .i64 0])):=by kernel_rfl
 apply k10_ok
 unfold k10 A0 iV wW pV lV cS;dsimp only [shH]
 refine psNew_c hk (fun hb=>⟨_,_,rfl,hbad hb⟩) fun hg sb F1 H1 hS1 hf1 hF1=>⟨_,_,rfl,?_⟩
 simp only [show ((0:Int) != 0)=false from rfl,cond_false]
 have h1:=h1 hg
 have h2:=h2 hg
 refine ptNew_c (fun hb=>absurd ⟨by decide,by decide⟩ hb) fun _ tb F2 H2 hT2 hf2 hF2=>⟨_,_,rfl,?_⟩
 simp only [show ((0:Int) != 0)=false from rfl,cond_false]
 have hf12:=hf1.trans hf2
 have hS2:=hS1.nilfr hf2
 have hgl:=hk.lt
 have hK3:PK (H2.push (.cells #[.pointer (some ⟨sb,0,none⟩),.pointer (some ⟨tb,0,none⟩)] 90)) H2.size (H2.size :: (F1++F2)) ⟨bootR0 words oops,0,[],false,0,0,0⟩ ⟨4096,[]⟩:=by
  have fp:=Fr.push [] H2 (.cells #[.pointer (some ⟨sb,0,none⟩),.pointer (some ⟨tb,0,none⟩)] 90)
  have l1:=hS2.lt
  have l1':=hS1.lt
  have l2:=hT2.lt
  refine ⟨sb,tb,F1,F2,rfl,fun hm=>absurd (l1 _ hm) (Nat.lt_irrefl _),fun hm=>absurd (l2 _ hm) (Nat.lt_irrefl _),fun x hx hx2=>?_,?_,fun hm=>?_,Blk.new _ _ _,hS2.nilfr fp,hT2.fr fp (Disj.nil_right _)⟩
  ·have:=hF2 x hx2;have:=l1' x hx;omega
  ·have:=hf12.1;omega
  ·have:=hF2 _ hm;have:=hf1.1;omega
 have hf3:Fr [] H (H2.push (.cells #[.pointer (some ⟨sb,0,none⟩),.pointer (some ⟨tb,0,none⟩)] 90)):=hf12.more
 have hF3:∀ x∈H2.size :: (F1++F2),H.size≤x:=fun x hx=>by
  rcases List.mem_cons.1 hx with rfl | hx
  ·exact hf12.1
  ·rcases List.mem_append.1 hx with hx | hx
   ·exact hF1 x hx
   ·exact Nat.le_trans hf1.1 (hF2 x hx)
 generalize hH3:(H2.push (.cells #[.pointer (some ⟨sb,0,none⟩),.pointer (some ⟨tb,0,none⟩)] 90))=H3 at hK3 hf3 ⊢
 generalize (H2.size :: (F1++F2))=F3 at hK3 hF3
 apply k48_ok
 unfold k48 A0 sV lV
 refine ⟨_,_,_,rfl,?_⟩
 have hlt3:=hK3.lt
 have hO0:Own 2 (H3.push (.cells (planV [(5,0),(6,0),(7,0)]).toArray 91)) (some ⟨H3.size,0,none⟩) 3 3 (planV [(5,0),(6,0),(7,0)]) [H3.size]:=⟨rfl,Nat.le_refl _,.inr ⟨H3.size,_,rfl,rfl,Blk.new _ _ _,rfl,rfl⟩⟩
 have fq:Fr [] H3 (H3.push (.cells (planV [(5,0),(6,0),(7,0)]).toArray 91)):=Fr.push _ _ _
 generalize hH4:(H3.push (.cells (planV [(5,0),(6,0),(7,0)]).toArray 91))=H4 at hO0 fq
 have hO1:Own 2 (H4.push (.cells (strsV kNames).toArray 9)) (some ⟨H3.size,0,none⟩) 3 3 (planV [(5,0),(6,0),(7,0)]) [H3.size]:=hO0.fr (Fr.push [] _ _) (by simp)
 have fr1:Fr [] H3 (H4.push (.cells (strsV kNames).toArray 9)):=fq.more
 show ∃(I11:List Value→Heap→Prop) (μ11:List Value→Heap→Nat),I11 [.slice (some ⟨H3.size,0,none⟩) 3 3,.int .i64 0] ((H3.push (.cells (planV [(5,0),(6,0),(7,0)]).toArray 91)).push (.cells (strsV kNames).toArray 9))∧_
 rw [hH4]
 generalize (H4.push (.cells (strsV kNames).toArray 9))=H5 at hO1 fr1 ⊢
 refine ⟨fun w H'=>∃(i:Nat) (a:Option Addr) (l c:Nat) (G:Foot),w=[.slice a l c,.int .i64 i]∧i≤14∧Own 2 H' a l c (planV ([(5,0),(6,0),(7,0)]++List.replicate i (12,7))) G∧Fr [] H3 H'∧(∀ x∈G,H3.size≤x),fun w _=>match w with
  | [_,.int _ i]=>(14-i).toNat
  | _=>0,⟨0,_,_,_,_,rfl,by decide,hO1,fr1,by simp⟩,?_⟩
 rintro w H6 ⟨i,a,l,c,G,rfl,hi,ho,hf6,hG⟩ _
 have hl:l=3+i:=by have:=ho.len;rw [planV_len] at this;simp at this;omega
 refine ⟨_,_,_,_,rfl,?_⟩
 rw [cond_dec]
 refine ite_i (fun hlt=>?_) fun hlt=>?_
 ·have e1:IntKind.wrap .i64 ((i:Int)+1)=((i+1:Nat):Int):=by rw [wrap64_id (by omega) (by omega)];omega
  refine evS_append1 hs1 rfl (by kernel_rfl) ho rfl (by simp [oneC]) (by omega) (by decide) (by decide) fun a' c' G2 H7 g1 g2 g3=>⟨_,_,_,rfl,?_⟩
  obtain ⟨f7,hG7⟩:=Up.fresh hf6 g2 hG
  rw [e1]
  refine ⟨⟨i+1,a',l+1,c',G2,rfl,by omega,?_,f7,hG7⟩,by simp;omega⟩
  rw [List.replicate_succ',←List.append_assoc,planV_append]
  exact g1
 have hi14:i=14:=by omega
 subst hi14
 have fl:Fr [] H6 (H6.push (.cells (planV [(11,0),(11,8),(11,14)]).toArray 91)):=Fr.push _ _ _
 refine evS_append (l2:=3) (ys:=planV [(11,0),(11,8),(11,14)]) hs1 rfl (by kernel_rfl) (ho.fr fl (by simp)) ⟨rfl,(fun h=>by cases h),fun p hp k hk'=>?_⟩ (planV_one _) (by omega) (by decide) (by decide) fun a' c' G2 H7 g1 g2 g3=>⟨_,_,_,rfl,?_⟩
 ·cases hp
  rw [add_none,Nat.zero_add]
  exact ((Blk.new H6 (planV [(11,0),(11,8),(11,14)]).toArray 91).cell k).trans (by simp)
 obtain ⟨f7,hG7⟩:=Up.fresh (hf6.trans fl) g2 hG
 rw [←planV_append] at g1
 have ep:[(5,0),(6,0),(7,0)]++List.replicate 14 (12,7)++[(11,0),(11,8),(11,14)]=bootPlan:=rfl
 rw [ep] at g1
 subst hl
 have hr7:Rd 2 H7 a' 20 (planV bootPlan):=g1.rd
 have ho7:Out H7 a' F3:=fun p hp=>by
  have hlt:=g1.lt
  rcases g1.2.2 with ⟨h3,_⟩ | ⟨b',cs,h3,h4,_⟩
  ·rw [h3] at hp;cases hp
  ·rw [h3] at hp;cases hp
   have hb':b'∈G2:=by rw [h4];simp
   exact ⟨hlt _ hb',fun hm=>by have h5:=hG7 _ hb';have h6:=hlt3 _ hm;simp only at h6;omega⟩
 have hK7:=hK3.nil f7
 have hc3:cellH H3 ⟨H2.size,0,none⟩=some (.pointer (some ⟨sb,0,none⟩)):=by rw [←hH3];exact (Blk.new H2 _ _).cell 0
 have hc7:cellH H7 ⟨H2.size,0,none⟩=some (.pointer (some ⟨sb,0,none⟩)):=by rw [cell_fr f7 (by simp) (cell_lt hc3)];exact hc3
 have hf7:=hf3.trans f7
 have h20:bootPlan.length=20:=rfl
 refine ⟨fun w H'=>∃(k:Nat) (r:RH) (st:List Int) (F':Foot),w=[.int .i64 k]∧k≤20∧PK H' H2.size F' ⟨r,0,st,false,0,0,0⟩ ⟨4096,[]⟩∧Up F3 H7 F' H'∧st.length=k∧cellH H' ⟨H2.size,0,none⟩=some (.pointer (some ⟨sb,0,none⟩))∧r.allocAll (bootPlan.drop k)=(bootR0 words oops).allocAll bootPlan,fun w _=>match w with
  | [.int _ k]=>(20-k).toNat
  | _=>0,⟨0,_,_,_,rfl,by decide,hK7,Up.refl _ _,rfl,hc7,rfl⟩,?_⟩
 rintro w H8 ⟨k,r,st,F8,rfl,hk20,hK8,hu8,hst,hcb,hall⟩ _
 refine ⟨_,rfl,?_⟩
 rw [cond_dec]
 refine ite_i (fun hlt=>?_) fun hlt=>?_
 ·have hkl:k<bootPlan.length:=by omega
  have e1:IntKind.wrap .i64 ((k:Int)+1)=((k+1:Nat):Int):=by rw [wrap64_id (by omega) (by omega)];omega
  have hr8:Rd 2 H8 a' 20 (planV bootPlan):=hr7.fr' hu8.1 fun p hp=>(ho7 p hp).2
  have hpb:=bootPlan_b k hkl
  obtain ⟨q0,q1⟩:=planV_get hkl
  have ed:bootPlan.drop k=bootPlan[k] :: bootPlan.drop (k+1):=List.drop_eq_getElem_cons hkl
  rw [ed] at hall
  have hex:∃ q,a'=some q:=by
   cases ha:a' with
   | none=>have:=hr8.2.1 ha;omega
   | some q=>exact ⟨q,rfl⟩
  obtain ⟨q,rfl⟩:=hex
  have c0:=hr8.2.2 q rfl (k*2) (by omega)
  have c1:=hr8.2.2 q rfl (k*2+1) (by omega)
  rw [q0] at c0
  rw [q1] at c1
  have eadd:(q.add (k*2)).add 1=q.add (k*2+1):=Addr.add_add _ _ _
  refine ⟨⟨by omega,by omega⟩,_,rfl,_,by rw [Int.toNat_natCast];exact c0,_,by rw [Int.toNat_natCast,eadd];exact c1,?_⟩
  have fpx:Fr [] H8 (H8.push (.cells #[.int .i64 0,.int .i64 0] 91)):=Fr.push _ _ _
  have hBx:=Blk.new H8 #[.int .i64 0,.int .i64 0] 91
  generalize (H8.push (.cells #[.int .i64 0,.int .i64 0] 91))=H9 at fpx hBx ⊢
  have hB9:=(hBx.set 0 (.int .i64 (bootPlan[k]).1)).set 1 (.int .i64 (bootPlan[k]).2)
  have f9:Fr [] H8 (setH (setH H9 ⟨H8.size,0,none⟩ (.int .i64 (bootPlan[k]).1)) ⟨H8.size,1,none⟩ (.int .i64 (bootPlan[k]).2)):=Fr.late (Fr.late fpx (Nat.le_refl _)) (Nat.le_refl _)
  refine ⟨hBx.wr (o:=0) (by simp),(hBx.set 0 _).wr (o:=1) (by simp),?_⟩
  show ∃ n25:Int,cellH (setH (setH H9 ⟨H8.size,0,none⟩ (.int .i64 (bootPlan[k]).1)) ⟨H8.size,1,none⟩ (.int .i64 (bootPlan[k]).2)) ⟨H8.size,0,none⟩=some (.int .i64 n25)∧∃ n26:Int,cellH (setH (setH H9 ⟨H8.size,0,none⟩ (.int .i64 (bootPlan[k]).1)) ⟨H8.size,1,none⟩ (.int .i64 (bootPlan[k]).2)) ⟨H8.size,1,none⟩=some (.int .i64 n26)∧callS PP n_k20 _ _ (setH (setH H9 ⟨H8.size,0,none⟩ (.int .i64 (bootPlan[k]).1)) ⟨H8.size,1,none⟩ (.int .i64 (bootPlan[k]).2))
  generalize (setH (setH H9 ⟨H8.size,0,none⟩ (.int .i64 (bootPlan[k]).1)) ⟨H8.size,1,none⟩ (.int .i64 (bootPlan[k]).2))=HA at hB9 f9 ⊢
  have hKA:=hK8.nil f9
  obtain ⟨sbA,FA,hcA,hSA,hsubA,hbA,hupA,hupA2⟩:=hKA.sp
  have esb:sbA=sb:=by rw [cell_fr f9 (by simp) (cell_lt hcb),hcb] at hcA;simpa using hcA.symm
  subst esb
  refine ⟨_,hB9.cell 0,_,hB9.cell 1,psHeap_c hSA fun hb FB hRB hsubB hupB=>⟨_,rfl,⟨⟨hB9.cell 1,trivial⟩,⟨hB9.cell 0,trivial⟩,trivial⟩,object_c hpb ⟨_,rfl,⟨⟨hB9.cell 1,trivial⟩,trivial⟩,alloc_c hRB fun HB' hRB' hfB=>⟨_,_,rfl,trivial,?_⟩⟩⟩⟩
  have hSB:=hupB HB' _ hRB' hfB
  have hKB:=hupA2 HB' _ hSB (hfB.mono hsubB)
  have huB:Up F8 HA F8 HB':=⟨(hfB.mono hsubB).mono hsubA,fun _ h=>.inl h⟩
  have hu8B:Up F3 H7 F8 HB':=hu8.trans ((Up.of_nil f9).trans huB)
  rw [allocAll_cons] at hall
  rw [bneI,cond_dec]
  refine ite_i (fun he=>?_) fun he=>?_
  ·rw [if_pos he] at hall
   have e0:((bootR0 words oops).allocAll bootPlan).1=(r.alloc (4*(bootPlan[k]).1) (bootPlan[k]).2 0).1.2:=by rw [←hall]
   have:=h1 (by rw [e0];exact he) HB' ?_
   ·rw [e0] at this;exact this
   ·exact (Up.fresh hf7 hu8B hF3).1
  rw [if_neg he] at hall
  have hz:(r.alloc (4*(bootPlan[k]).1) (bootPlan[k]).2 0).1.2=0:=Classical.byContradiction he
  have hob:=alloc_ok hK8.wfs.h hz
  refine object_c ⟨hob.2.1,hob.2.2.1⟩ ⟨_,rfl,?_⟩
  have fpy:Fr [] HB' (HB'.push (.cells #[.int .i64 (4*(r.alloc (4*(bootPlan[k]).1) (bootPlan[k]).2 0).1.1)] 36)):=Fr.push _ _ _
  have hKC:=hKB.nil fpy
  obtain ⟨sbC,FC,hcC,hSC,hsubC,hbC,hupC,_⟩:=hKC.sp
  have hcB':cellH HB' ⟨H2.size,0,none⟩=some (.pointer (some ⟨sbA,0,none⟩)):=by rw [cell_fr hfB (fun hm=>hbA (hsubB _ hm)) (cell_lt hcA)];exact hcA
  have hcP:=cell_fr fpy (b:=H2.size) (o:=0) (by simp) (cell_lt hcB')
  rw [hcB'] at hcP
  have esb:sbC=sbA:=by rw [hcP] at hcC;simpa using hcC.symm
  subst esb
  have hkw:=keepW_one (s:=⟨(r.alloc (4*(bootPlan[k]).1) (bootPlan[k]).2 0).2,0,st,false,0,0,0⟩) (isW_obj hob.2.1 hob.2.2.1) (by show st.length<65536;omega)
  refine psKeep_c hSC (rd_new (cs:=[4*(r.alloc (4*(bootPlan[k]).1) (bootPlan[k]).2 0).1.1])) (by decide) fun HD FD hSD huD=>⟨_,rfl,?_⟩
  rw [hkw] at hSD ⊢
  simp only [show ((0:Int) != 0)=false from rfl,cond_false]
  obtain ⟨FE,hKE,huE⟩:=hupC HD FD _ hSD huD
  rw [e1]
  exact ⟨⟨k+1,_,_,FE,rfl,by omega,hKE,hu8B.trans ((Up.of_nil fpy).trans huE),by simp [hst],by rw [cell_fr huD.1 hbC (cell_lt hcC)];exact hcC,hall⟩,by simp;omega⟩
 ·have hk20':k=20:=by omega
  subst hk20'
  have ez:bootPlan.drop 20=[]:=rfl
  rw [ez] at hall
  have hall':(0,r)=(bootR0 words oops).allocAll bootPlan:=hall
  have hz:((bootR0 words oops).allocAll bootPlan).1=0:=by rw [←hall']
  have hrr:r=((bootR0 words oops).allocAll bootPlan).2:=by rw [←hall']
  have hbH:bootH r=bootRH words oops:=by rw [hrr];exact bootRH_eq _ _
  have hro:r.objs=bootL:=by rw [hrr];exact boot_objs hz
  obtain ⟨sb8,F9,hc8,hS8,_⟩:=hK8.sp
  obtain ⟨hb8,_,_,hcx,_⟩:=hS8.upd
  have esb8:sb8=sb:=by rw [hcb] at hc8;simpa using hc8.symm
  subst esb8
  refine fill_k hK8 ⟨hc8,hcx⟩ (fun j x hx=>?_) fun H9 FA hKA hBA huA=>⟨rfl,?_⟩
  ·rw [hro] at hx
   exact of_decide_eq_true (List.all_eq_true.1 bootL_fmt x (objAt_some hx).1)
  have hKA':PK H9 H2.size FA ⟨bootRH words oops,0,st,false,0,0,0⟩ bootT:=by rw [←hbH];exact hKA
  obtain ⟨sbA,F10,hcA,hSA,hsubA,hbA,_,hupA⟩:=hKA'.sp
  have esb:sbA=sb8:=by have:=hBA.1;rw [hcA] at this;simpa using this
  subst esb
  have hwf:WFH (bootRH words oops):=hKA'.wfs.h
  have hcl:((bootRH words oops).clsAt 19).2=0:=boot_root hwf hz
  refine psCrown_c hSA fun HB hSB hfB=>⟨_,rfl,?_⟩
  have ecr:(SP.crown ⟨bootRH words oops,0,st,false,0,0,0⟩ 19)=(0,⟨bootRH words oops,19,st,false,0,0,0⟩):=by
   unfold SP.crown
   rw [if_neg (by simpa using hcl)]
  rw [ecr] at hSB
  have hKB:=hupA HB _ hSB hfB
  obtain ⟨sbB,F11,hcB,hSB',hsubB,_,_,hupB⟩:=hKB.sp
  have esb:sbB=sbA:=by rw [cell_fr hfB hbA (cell_lt hcA),hcA] at hcB;simpa using hcB.symm
  subst esb
  refine psDrop_c hSB' ⟨by decide,by decide⟩ fun HC hSC hfC=>⟨_,rfl,?_⟩
  have edr:(SP.drop ⟨bootRH words oops,19,st,false,0,0,0⟩ ((20:Nat):Int))=(0,bootS words oops):=by
   unfold SP.drop
   rw [if_neg (by simp only [hst];decide)]
   simp [hst,bootS]
  have e20:((3+14+3:Nat):Int)=((20:Nat):Int):=rfl
  rw [edr] at hSC
  have hKC:=hupB HC _ hSC hfC
  have huC:Up F3 H7 FA HC:=(hu8.trans huA).trans ⟨(hfB.mono hsubA).trans (hfC.mono hsubB),fun _ h=>.inl h⟩
  have:=Up.fresh hf7 huC hF3
  exact h2 hz H2.size FA HC hKC this.1 this.2
end
end Go.Proofs.YtmkdkplipbocjaaGreatDoor
namespace Go.Proofs.YtmkdkplipbocjaaGreatDoor
open Kw
def NamesAt (H:Heap):Prop:=∀ i (hi:i<kNames.length),cellH H ⟨g_kilnref13_Names,i,none⟩=some (.string kNames[i])
theorem NamesAt.fr {H H':Heap}{F:Foot} (h:NamesAt H) (hf:Fr F H H') (hn:g_kilnref13_Names∉F):NamesAt H':=fun i hi=>by
 rw [cell_fr hf hn (cell_lt (h i hi))];exact h i hi
theorem NamesAt.lt {H:Heap} (h:NamesAt H):g_kilnref13_Names<H.size:=cell_lt (h 0 (by decide))
theorem lay8 (x:RH):x.lay 19 0 [80,72,72,72,4,8,12,4]=((x.lay 19 0 fillR).put 19 7 4).2:=rfl
theorem boot_put7 (w o m b t:Int):((bootH ⟨w,o,m,b,t,bootL⟩).put 19 7 4).2=bootH ⟨w,o,m,b,t,bootL⟩:=by kernel_rfl
theorem boot_lay8 {words oops:Int} (hz:((bootR0 words oops).allocAll bootPlan).1=0):(fillN ((bootR0 words oops).allocAll bootPlan).2 14).lay 19 0 [80,72,72,72,4,8,12,4]=bootRH words oops:=by
 have e:((bootR0 words oops).allocAll bootPlan).2=⟨words,oops,0,20,0,bootL⟩:=by
  rw [allocAll_grow bootPlan (r:=bootR0 words oops) rfl hz]
  kernel_rfl
 have e2:bootRH words oops=bootH ⟨words,oops,0,20,0,bootL⟩:=by unfold bootRH;rw [e]
 rw [lay8,e2,e]
 exact boot_put7 words oops 0 20 0
attribute [local irreducible] bootRH bootH bootL
section
variable {H:Heap}{Q:QT}
theorem row_r {k:Nat} (hk:k<bootPlan.length) (h:Q (.tuple #[.int .i64 (bootPlan[k]).1,.int .i64 (bootPlan[k]).2]) H):callS PP n_k57 #[.int .i64 ((k:Int)+1)] Q H:=by
 apply k57_ok
 unfold k57 iV wW
 have h20:k<20:=hk
 rcases k with _ | _ | _ | _ | _ | _ | _ | _ | _ | _ | _ | _ | _ | _ | _ | _ | _ | _ | _ | _ | k
 all_goals first | exact h | omega
theorem boot_r {words oops:Int} (hN:NamesAt H) (hbad:¬ (0≤words∧words≤1048576∧0≤oops∧oops≤65536)→Q (.tuple #[.pointer none,.int .i64 1]) H)
  (h1:(0≤words∧words≤1048576∧0≤oops∧oops≤65536)→((bootR0 words oops).allocAll bootPlan).1≠0→∀ H',Fr [] H H'→Q (.tuple #[.pointer none,.int .i64 ((bootR0 words oops).allocAll bootPlan).1]) H')
  (h2:(0≤words∧words≤1048576∧0≤oops∧oops≤65536)→((bootR0 words oops).allocAll bootPlan).1=0→∀ b F H',RK H' b F (bootS words oops) bootT→Fr [] H H'→(∀ x∈F,H.size≤x)→Q (.tuple #[.pointer (some ⟨b,0,none⟩),.int .i64 0]) H') :
  callS PP n_k11 #[.int .i64 words,.int .i64 oops] Q H:=by
 have h14:kNames.length=14:=rfl
 apply k11_ok
 unfold k11 A0 iV wW pV sV lV cS
 refine rsNew_c (fun hb=>⟨_,_,rfl,hbad hb⟩) fun hg sb F1 H1 hS1 hf1 hF1=>⟨_,_,rfl,?_⟩
 simp only [show ((0:Int) != 0)=false from rfl,cond_false]
 have h1:=h1 hg
 have h2:=h2 hg
 refine rtNew_c (fun hb=>absurd ⟨by decide,by decide⟩ hb) fun _ H2 hT2 hf2=>⟨_,_,rfl,?_⟩
 have hf12:=hf1.trans hf2
 have hS2:=hS1.fr hf2 (Disj.nil_right _)
 have hK3:RK (H2.push (.cells #[.pointer (some ⟨sb,0,none⟩),.pointer (some ⟨H1.size,0,none⟩)] 104)) H2.size (H2.size :: (F1++[H1.size])) ⟨bootR0 words oops,0,[],false,0,0,0⟩ ⟨4096,[]⟩:=by
  have fp:=Fr.push [] H2 (.cells #[.pointer (some ⟨sb,0,none⟩),.pointer (some ⟨H1.size,0,none⟩)] 104)
  have l1:=hS2.lt
  have l1':=hS1.lt
  have l2:=hT2.lt
  exact ⟨sb,H1.size,F1,[H1.size],rfl,fun hm=>absurd (l1 _ hm) (Nat.lt_irrefl _),fun hm=>absurd (l2 _ hm) (Nat.lt_irrefl _),fun x hx hx2=>by simp only [List.mem_singleton] at hx2;have:=l1' x hx;omega,Blk.new _ _ _,hS2.fr fp (Disj.nil_right _),hT2.fr fp (Disj.nil_right _)⟩
 have hf3:Fr [] H (H2.push (.cells #[.pointer (some ⟨sb,0,none⟩),.pointer (some ⟨H1.size,0,none⟩)] 104)):=hf12.more
 have hF3:∀ x∈H2.size :: (F1++[H1.size]),H.size≤x:=fun x hx=>by
  rcases List.mem_cons.1 hx with rfl | hx
  ·exact hf12.1
  ·rcases List.mem_append.1 hx with hx | hx
   ·exact hF1 x hx
   ·simp only [List.mem_singleton] at hx;rw [hx];exact hf1.1
 have hc0:cellH (H2.push (.cells #[.pointer (some ⟨sb,0,none⟩),.pointer (some ⟨H1.size,0,none⟩)] 104)) ⟨H2.size,0,none⟩=some (.pointer (some ⟨sb,0,none⟩)):=(Blk.new H2 _ _).cell 0
 have hc1:cellH (H2.push (.cells #[.pointer (some ⟨sb,0,none⟩),.pointer (some ⟨H1.size,0,none⟩)] 104)) ⟨H2.size,1,none⟩=some (.pointer (some ⟨H1.size,0,none⟩)):=(Blk.new H2 _ _).cell 1
 generalize (H2.push (.cells #[.pointer (some ⟨sb,0,none⟩),.pointer (some ⟨H1.size,0,none⟩)] 104))=H3 at hK3 hf3 hc0 hc1 ⊢
 generalize (H2.size :: (F1++[H1.size]))=F3 at hK3 hF3
 have h20:bootPlan.length=20:=rfl
 have hgF:∀ {H':Heap}{F':Foot},Up F3 H3 F' H'→g_kilnref13_Names∉F':=fun {H' F'} hu hm=>by
  have hlt:=hN.lt
  rcases hu.2 _ hm with h5 | h5
  ·have:=hF3 _ h5;omega
  ·have:=hf3.1;omega
 refine ⟨fun w H'=>∃(k:Nat) (r:RH) (F':Foot),w=[.int .i64 ((k:Int)+1)]∧k≤20∧RK H' H2.size F' ⟨r,0,[],false,0,0,0⟩ ⟨4096,[]⟩∧Up F3 H3 F' H'∧cellH H' ⟨H2.size,0,none⟩=some (.pointer (some ⟨sb,0,none⟩))∧cellH H' ⟨H2.size,1,none⟩=some (.pointer (some ⟨H1.size,0,none⟩))∧r.allocAll (bootPlan.drop k)=(bootR0 words oops).allocAll bootPlan,fun w _=>match w with
  | [.int _ k]=>(21-k).toNat
  | _=>0,⟨0,_,_,rfl,by decide,hK3,Up.refl _ _,hc0,hc1,rfl⟩,?_⟩
 rintro w H8 ⟨k,r,F8,rfl,hk20,hK8,hu8,hd0,hd1,hall⟩ _
 refine ⟨_,rfl,?_⟩
 rw [cond_dec]
 refine ite_i (fun hlt=>?_) fun hlt=>?_
 ·have hkl:k<bootPlan.length:=by omega
  have e1:IntKind.wrap .i64 ((k:Int)+1+1)=((k+1:Nat):Int)+1:=by rw [wrap64_id (by omega) (by omega)];omega
  have hpb:=bootPlan_b k hkl
  have ed:bootPlan.drop k=bootPlan[k] :: bootPlan.drop (k+1):=List.drop_eq_getElem_cons hkl
  rw [ed,allocAll_cons] at hall
  obtain ⟨sb',hb,FB,hcs,c0,hRB,hsub,hbn,hup⟩:=hK8.hp
  have esb:sb'=sb:=by rw [hd0] at hcs;simpa using hcs.symm
  subst esb
  refine row_r hkl ⟨_,_,rfl,_,rfl,_,c0,refObj_c ⟨by omega,by omega⟩ ⟨_,rfl,⟨⟨c0,trivial⟩,trivial⟩,ralloc_c hRB fun H9 FB' hR9 hu9=>⟨_,_,rfl,trivial,?_⟩⟩⟩
  obtain ⟨F9,hK9,hu9'⟩:=hup H9 FB' _ hR9 hu9
  have hbl:=hK8.lt _ hK8.bmem
  rw [bneI,cond_dec]
  refine ite_i (fun he=>?_) fun he=>?_
  ·rw [if_pos he] at hall
   have e0:((bootR0 words oops).allocAll bootPlan).1=(r.alloc (4*(bootPlan[k]).1) (bootPlan[k]).2 0).1.2:=by rw [←hall]
   have:=h1 (by rw [e0];exact he) H9 (Up.fresh hf3 (hu8.trans hu9') hF3).1
   rw [e0] at this;exact this
  rw [if_neg he] at hall
  rw [e1]
  exact ⟨⟨k+1,_,F9,rfl,by omega,hK9,hu8.trans hu9',by rw [cell_fr hu9.1 hbn hbl];exact hd0,by rw [cell_fr hu9.1 hbn hbl];exact hd1,hall⟩,by simp;omega⟩
 have hk20':k=20:=by omega
 subst hk20'
 have ez:bootPlan.drop 20=[]:=rfl
 rw [ez] at hall
 have hall':(0,r)=(bootR0 words oops).allocAll bootPlan:=hall
 have hz:((bootR0 words oops).allocAll bootPlan).1=0:=by rw [←hall']
 have hrr:r=((bootR0 words oops).allocAll bootPlan).2:=by rw [←hall']
 have hbH:bootH r=bootRH words oops:=by rw [hrr];exact bootRH_eq _ _
 have hNm:∀ {H':Heap}{F':Foot},Up F3 H3 F' H'→NamesAt H':=fun {H' F'} hu=>by
  have hN3:=hN.fr hf3 (by simp)
  exact hN3.fr hu.1 (fun hm=>by have:=hF3 _ hm;have:=hN.lt;omega)
 refine ⟨fun w H'=>∃(i:Nat) (F':Foot),w=[.int .i64 i]∧i≤14∧RK H' H2.size F' ⟨fillN r i,0,[],false,0,0,0⟩ ⟨4096,kNames.take i⟩∧Up F3 H3 F' H'∧cellH H' ⟨H2.size,0,none⟩=some (.pointer (some ⟨sb,0,none⟩))∧cellH H' ⟨H2.size,1,none⟩=some (.pointer (some ⟨H1.size,0,none⟩)),fun w _=>match w with
  | [.int _ i]=>(14-i).toNat
  | _=>0,⟨0,F8,rfl,by decide,hK8,hu8,hd0,hd1⟩,?_⟩
 rintro w H9 ⟨i,F9,rfl,hi,hK9,hu9,hx0,hx1⟩ _
 refine ⟨_,rfl,?_⟩
 rw [cond_dec]
 refine ite_i (fun hlt2=>?_) fun hlt2=>?_
 ·have hlt':i<kNames.length:=by omega
  have hN9:=hNm hu9 i hlt'
  have e1:IntKind.wrap .i64 ((i:Int)+1)=((i+1:Nat):Int):=by rw [wrap64_id (by omega) (by omega)];omega
  have e1':IntKind.wrap .i64 ((i:Int)+1)=(i:Int)+1:=wrap64_id (by omega) (by omega)
  have e4:IntKind.wrap .i64 (4+(i:Int))=4+(i:Int):=wrap64_id (by omega) (by omega)
  obtain ⟨tb,FT,hct,hT,hsubT,hbT,hupT⟩:=hK9.tb
  have etb:tb=H1.size:=by rw [hx1] at hct;simpa using hct.symm
  subst etb
  refine ⟨⟨by omega,hlt2⟩,_,by rw [add_none,Int.toNat_natCast,Nat.mul_one,Nat.zero_add];exact hN9,tadd_c hT fun HA FT' hTA huA=>⟨_,_,rfl,?_⟩⟩
  rw [bootAdd hlt'] at hTA
  obtain ⟨FA,hKA,huA'⟩:=hupT HA FT' _ hTA huA
  have hbl9:=hK9.lt _ hK9.bmem
  have hy0:cellH HA ⟨H2.size,0,none⟩=some (.pointer (some ⟨sb,0,none⟩)):=by rw [cell_fr huA.1 hbT hbl9];exact hx0
  have hy1:cellH HA ⟨H2.size,1,none⟩=some (.pointer (some ⟨H1.size,0,none⟩)):=by rw [cell_fr huA.1 hbT hbl9];exact hx1
  refine refObj_c (by decide) ⟨_,rfl,?_⟩
  refine ⟨fun w H'=>w=[.int .i64 (if i=0 then 4 else 16)]∧H'=HA,?_,?_⟩
  ·rw [beqI,cond_dec]
   refine ite_i (fun h0=>refObj_c (by decide) ⟨_,rfl,?_,rfl⟩) fun h0=>⟨?_,rfl⟩
   ·rw [if_pos (by omega)];rfl
   ·rw [if_neg (by omega)];rfl
  rintro w HA' ⟨rfl,rfl⟩ _
  refine ⟨_,rfl,refSym_c ⟨by omega,by omega⟩ ⟨_,rfl,refObj_c (by decide) ⟨_,rfl,refObj_c (by decide) ⟨_,rfl,refObj_c (by decide) ⟨_,rfl,refInt_c (by decide) ⟨_,rfl,?_⟩⟩⟩⟩⟩⟩
  rw [e1',e4]
  refine refInt_c ⟨by omega,by omega⟩ ⟨_,rfl,?_⟩
  have fq:=(Fr.push [] HA' (.cells (intsV (fillW i)).toArray 36))
  have hlA:=hKA.lt
  refine layB_r (hKA.nil fq) (ws:=fillW i) rd_new (fun p hp=>by cases hp;exact ⟨by simp,fun hm=>absurd (hlA _ hm) (Nat.lt_irrefl _)⟩) (by decide) fun HB FB hKB huB hce=>⟨rfl,?_⟩
  have hz0:cellH HB ⟨H2.size,0,none⟩=some (.pointer (some ⟨sb,0,none⟩)):=by rw [hce,cell_fr fq (by simp) (cell_lt hy0)];exact hy0
  have hz1:cellH HB ⟨H2.size,1,none⟩=some (.pointer (some ⟨H1.size,0,none⟩)):=by rw [hce,cell_fr fq (by simp) (cell_lt hy1)];exact hy1
  obtain ⟨sb',hb,FC,hcs,c0,hRC,hsub,hbn,hupC⟩:=hKB.hp
  have esb:sb'=sb:=by rw [hz0] at hcs;simpa using hcs.symm
  subst esb
  refine ⟨_,rfl,_,c0,refObj_c ⟨by omega,by omega⟩ ⟨_,rfl,⟨⟨c0,trivial⟩,trivial⟩,rput_c hRC fun HD hRD hfD=>⟨_,rfl,trivial,?_⟩⟩⟩
  obtain ⟨FD,hKD,huD⟩:=hupC HD FC _ hRD ⟨hfD,fun _ h=>.inl h⟩
  rw [show (i:Int)+1=((i+1:Nat):Int) by omega]
  have hbl:=hKB.lt _ hKB.bmem
  refine ⟨⟨i+1,FD,rfl,by omega,hKD,?_,by rw [cell_fr hfD hbn hbl];exact hz0,by rw [cell_fr hfD hbn hbl];exact hz1⟩,by simp;omega⟩
  exact ((hu9.trans huA').trans ((Up.of_nil fq).trans huB)).trans huD
 ·have hi14:i=14:=by omega
  subst hi14
  refine refObj_c (by decide) ⟨_,rfl,refObj_c (by decide) ⟨_,rfl,refObj_c (by decide) ⟨_,rfl,refObj_c (by decide) ⟨_,rfl,refObj_c (by decide) ⟨_,rfl,refObj_c (by decide) ⟨_,rfl,refObj_c (by decide) ⟨_,rfl,refObj_c (by decide) ⟨_,rfl,?_⟩⟩⟩⟩⟩⟩⟩⟩
  have fq:=(Fr.push [] H9 (.cells (intsV [80,72,72,72,4,8,12,4]).toArray 36))
  have hl9:=hK9.lt
  have hrd:Rd 1 (H9.push (.cells (intsV [80,72,72,72,4,8,12,4]).toArray 36)) (some ⟨H9.size,0,none⟩) 8 (intsV [80,72,72,72,4,8,12,4]):=rd_new (cs:=[80,72,72,72,4,8,12,4])
  have hRW:(fillN r 14).lay 19 0 [80,72,72,72,4,8,12,4]=bootRH words oops:=by rw [hrr];exact boot_lay8 hz
  show callS PP n_k61 _ _ (H9.push (.cells (intsV [80,72,72,72,4,8,12,4]).toArray 36))
  generalize (H9.push (.cells (intsV [80,72,72,72,4,8,12,4]).toArray 36))=H9' at fq hrd ⊢
  have hKq:=hK9.nil fq
  have hlq:Out H9' (some ⟨H9.size,0,none⟩) F9:=fun p hp=>by
   cases hp
   have h6:=hrd.2.2 _ rfl 0 (by decide)
   rw [add_none] at h6
   exact ⟨cell_lt (h6.trans (by rfl)),fun hm=>absurd (hl9 _ hm) (Nat.lt_irrefl _)⟩
  generalize ([80,72,72,72,4,8,12,4]:List Int)=W8 at hrd hRW
  generalize fillN r 14=R8 at hKq hRW
  have eT:(⟨4096,kNames.take 14⟩:TB)=bootT:=rfl
  rw [eT] at hKq
  refine layB_r hKq (ws:=W8) hrd hlq (by decide) fun HB FB hKB huB hce=>⟨rfl,?_⟩
  have hKB:RK HB H2.size FB ⟨R8.lay 19 0 W8,0,[],false,0,0,0⟩ bootT:=hKB
  rw [hRW] at hKB
  have hz0:cellH HB ⟨H2.size,0,none⟩=some (.pointer (some ⟨sb,0,none⟩)):=by rw [hce,cell_fr fq (by simp) (cell_lt hx0)];exact hx0
  obtain ⟨sb',FS,hcs,hS,hsubS,_,hupS⟩:=hKB.sp
  have esb:sb'=sb:=by rw [hz0] at hcs;simpa using hcs.symm
  subst esb
  refine rsCrown_c hS fun HC hSC hfC=>⟨_,rfl,?_⟩
  have hwf:WFH (bootRH words oops):=hKB.wfs.h
  have hcl:((bootRH words oops).clsAt 19).2=0:=boot_root hwf hz
  have ecr:(SP.crown ⟨bootRH words oops,0,[],false,0,0,0⟩ 19)=(0,bootS words oops):=by
   unfold SP.crown
   rw [if_neg (by simpa using hcl)]
   rfl
  rw [ecr] at hSC
  obtain ⟨FC,hKC,huC⟩:=hupS HC FS _ hSC ⟨hfC,fun _ h=>.inl h⟩
  have hall2:=Up.fresh hf3 ((hu9.trans ((Up.of_nil fq).trans huB)).trans huC) hF3
  exact h2 hz H2.size FC HC hKC hall2.1 hall2.2
end
end Go.Proofs.YtmkdkplipbocjaaGreatDoor
namespace Go.Proofs.YtmkdkplipbocjaaGreatDoor
open Kw
variable {Q:QT}{H:Heap}
abbrev n_k3:Nat:=3
def k3 (n1:Int) (n2:Int) (Q:QT) (H:Heap):Prop :=
 callS PP 10 #[iV n1,iV n2] (fun v3 H1=>∃ p4 n5,v3=.tuple #[pV p4,iV n5]∧cS 11 #[iV n1,iV n2] (fun v6 H2=>∃ p7 n8,v6=.tuple #[pV p7,iV n8]∧cS 12 #[iV n5] (fun v9 H3=>∃ n10,v9=iV n10∧cond (n10 != n8) (Q (.bool false) H3) (cond (!((Option.isNone p4) == (Option.isNone p7))) (Q (.bool false) H3) (cond (Option.isNone p4) (cS 10 #[iV 160,iV 20] (fun v11 H4=>∃ p12 n13,v11=.tuple #[pV p12,iV n13]∧cond (!(Option.isNone p12)) (cS 12 #[iV n13] (fun v14 H5=>∃ n15,v14=iV n15∧cond (n15 == 0) (cS 13 #[] (fun v16 H6=>∃ b17,v16=.bool b17∧Q (.bool b17) H6) H5) (Q (.bool false) H5)) H4) (Q (.bool false) H4)) H3) (cS 14 #[pV p4,iV 14] (fun v18 H7=>∃ n19 n20,v18=.tuple #[iV n19,iV n20]∧cS 15 #[pV p4,pV p7] (fun v21 H8=>∃ b22,v21=.bool b22∧cond b22 (cond (n19 == 17) (cS 12 #[iV n20] (fun v23 H9=>∃ n24,v23=iV n24∧cond (n24 == 0) (cS 13 #[] (fun v25 H10=>∃ b26,v25=.bool b26∧Q (.bool b26) H10) H9) (Q (.bool false) H9)) H8) (Q (.bool false) H8)) (Q (.bool false) H8)) H7) H3)))) H2) H1) H
theorem k3_ok {n1:Int}{n2:Int} (h:k3 n1 n2 Q H):callS PP 3 #[.int .i64 n1,.int .i64 n2] Q H :=
 okF Tryz.func3 rfl h
abbrev n_k7:Nat:=7
def k7 (n1:Int) (n2:Int) (a3:Option Addr) (l3:Nat) (_c3:Nat) (Q:QT) (H:Heap):Prop :=
 callS PP 10 #[iV n1,iV n2] (fun v4 H1=>∃ p5 n6,v4=.tuple #[pV p5,iV n6]∧cS 11 #[iV n1,iV n2] (fun v7 H2=>∃ p8 n9,v7=.tuple #[pV p8,iV n9]∧cS 12 #[iV n6] (fun v10 H3=>∃ n11,v10=iV n11∧cond (n11 != n9) (Q (.bool false) H3) (cond (!((Option.isNone p5) == (Option.isNone p8))) (Q (.bool false) H3) (cond (Option.isNone p5) (cS 3 #[iV 160,iV 20] (fun v12 H4=>∃ b13,v12=.bool b13∧Q (.bool b13) H4) H3) (cS 18 #[pV p5,sV (⟨#[71,111,110,101]⟩:ByteArray)] (fun v14 H5=>∃ n15,v14=iV n15∧cS 12 #[iV n15] (fun v16 H6=>∃ n17,v16=iV n17∧cS 27 #[pV p8,sV (⟨#[71,111,110,101]⟩:ByteArray)] (fun v18 H7=>∃ n19,v18=iV n19∧cond (n17 != n19) (Q (.bool false) H7) (cS 18 #[pV p5,sV (⟨#[71,116,119,111]⟩:ByteArray)] (fun v20 H8=>∃ n21,v20=iV n21∧cS 12 #[iV n21] (fun v22 H9=>∃ n23,v22=iV n23∧cS 27 #[pV p8,sV (⟨#[71,116,119,111]⟩:ByteArray)] (fun v24 H10=>∃ n25,v24=iV n25∧cond (n23 != n25) (Q (.bool false) H10) (cS 28 #[pV p5,pV p8] (fun v26 H11=>∃ b27,v26=.bool b27∧cond (!b27) (Q (.bool false) H11) (∃(I28:IT) (μ28:MT),I28 [pV none,iV 0] H11∧∀ w29 H12,I28 w29 H12→∀ _g:Nat→Value,∃ p30 n31,w29=[pV p30,iV n31]∧cond (decide (n31<(l3:Int))) (cond (decide (n31<1099511627776)) (cond (n31 == (wW (Int.tdiv (l3:Int) 2))) (cS 29 #[pV p5,pV p8] (fun v32 H13=>∃ p33,v32=pV p33∧((0:Int)≤n31∧n31<(l3:Int))∧∃ q34,a3=some q34∧∃ n35,cellH H13 (q34.add (Int.toNat n31*6))=some (iV n35)∧∃ n36,cellH H13 ((q34.add (Int.toNat n31*6)).add 1)=some (iV n36)∧∃ n37,cellH H13 ((q34.add (Int.toNat n31*6)).add 2)=some (iV n37)∧∃ s38,cellH H13 ((q34.add (Int.toNat n31*6)).add 3)=some (sV s38)∧∃ s39,cellH H13 ((q34.add (Int.toNat n31*6)).add 4)=some (sV s39)∧∃ a40 l40 c40,cellH H13 ((q34.add (Int.toNat n31*6)).add 5)=some (lV a40 l40 c40)∧cS 24 #[pV p5,pV p8,.agg #[iV n35,iV n36,iV n37,sV s38,sV s39,lV a40 l40 c40]] (fun v41 H14=>∃ b42,v41=.bool b42∧cond (!b42) (Q (.bool false) H14) (I28 [pV p33,iV (wW (n31+1))] H14∧μ28 [pV p33,iV (wW (n31+1))] H14<μ28 w29 H12)) H13) H12) (((0:Int)≤n31∧n31<(l3:Int))∧∃ q43,a3=some q43∧∃ n44,cellH H12 (q43.add (Int.toNat n31*6))=some (iV n44)∧∃ n45,cellH H12 ((q43.add (Int.toNat n31*6)).add 1)=some (iV n45)∧∃ n46,cellH H12 ((q43.add (Int.toNat n31*6)).add 2)=some (iV n46)∧∃ s47,cellH H12 ((q43.add (Int.toNat n31*6)).add 3)=some (sV s47)∧∃ s48,cellH H12 ((q43.add (Int.toNat n31*6)).add 4)=some (sV s48)∧∃ a49 l49 c49,cellH H12 ((q43.add (Int.toNat n31*6)).add 5)=some (lV a49 l49 c49)∧cS 24 #[pV p5,pV p8,.agg #[iV n44,iV n45,iV n46,sV s47,sV s48,lV a49 l49 c49]] (fun v50 H15=>∃ b51,v50=.bool b51∧cond (!b51) (Q (.bool false) H15) (I28 [pV p30,iV (wW (n31+1))] H15∧μ28 [pV p30,iV (wW (n31+1))] H15<μ28 w29 H12)) H12)) (cS 29 #[pV p5,pV p8] (fun v52 H16=>∃ p53,v52=pV p53∧cond (!(Option.isNone p30)) (cS 30 #[pV p30] (fun v54 H17=>∃ b55,v54=.bool b55∧cond (!b55) (Q (.bool false) H17) (cS 30 #[pV p53] (fun v56 H18=>∃ b57,v56=.bool b57∧cond b57 (cS 15 #[pV p5,pV p8] (fun v58 H19=>∃ b59,v58=.bool b59∧cond b59 (cS 13 #[] (fun v60 H20=>∃ b61,v60=.bool b61∧Q (.bool b61) H20) H19) (Q (.bool false) H19)) H18) (Q (.bool false) H18)) H17)) H16) (cS 30 #[pV p53] (fun v62 H21=>∃ b63,v62=.bool b63∧cond b63 (cS 15 #[pV p5,pV p8] (fun v64 H22=>∃ b65,v64=.bool b65∧cond b65 (cS 13 #[] (fun v66 H23=>∃ b67,v66=.bool b67∧Q (.bool b67) H23) H22) (Q (.bool false) H22)) H21) (Q (.bool false) H21)) H16)) H12)) (cS 29 #[pV p5,pV p8] (fun v68 H24=>∃ p69,v68=pV p69∧cond (!(Option.isNone p30)) (cS 30 #[pV p30] (fun v70 H25=>∃ b71,v70=.bool b71∧cond (!b71) (Q (.bool false) H25) (cS 30 #[pV p69] (fun v72 H26=>∃ b73,v72=.bool b73∧cond b73 (cS 15 #[pV p5,pV p8] (fun v74 H27=>∃ b75,v74=.bool b75∧cond b75 (cS 13 #[] (fun v76 H28=>∃ b77,v76=.bool b77∧Q (.bool b77) H28) H27) (Q (.bool false) H27)) H26) (Q (.bool false) H26)) H25)) H24) (cS 30 #[pV p69] (fun v78 H29=>∃ b79,v78=.bool b79∧cond b79 (cS 15 #[pV p5,pV p8] (fun v80 H30=>∃ b81,v80=.bool b81∧cond b81 (cS 13 #[] (fun v82 H31=>∃ b83,v82=.bool b83∧Q (.bool b83) H31) H30) (Q (.bool false) H30)) H29) (Q (.bool false) H29)) H24)) H12))) H10)) H9) H8) H7)) H6) H5) H3)))) H2) H1) H
theorem k7_ok {n1:Int}{n2:Int}{a3:Option Addr}{l3:Nat}{c3:Nat} (h:k7 n1 n2 a3 l3 c3 Q H):callS PP 7 #[.int .i64 n1,.int .i64 n2,.slice a3 l3 c3] Q H :=
 callS_of good Tryz.func7 rfl (Ls:=fun | 11=>some [(11,60),(12,3)] | _=>none) (by kernel_rfl) h
abbrev n_k12:Nat:=12
def k12 (n1:Int) (Q:QT) (H:Heap):Prop :=
 Q (iV n1) H
theorem k12_ok {n1:Int} (h:k12 n1 Q H):callS PP 12 #[.int .i64 n1] Q H :=
 okF Tryz.func12 rfl h
abbrev n_k13:Nat:=13
def k13  (Q:QT) (H:Heap):Prop :=
 callS PP 66 #[pV none,sV (⟨#[79,98,106,101,99,116]⟩:ByteArray)] (fun v1 H1=>∃ n2 n3,v1=.tuple #[iV n2,iV n3]∧cS 17 #[pV none,sV (⟨#[65]⟩:ByteArray),sV (⟨#[79,98,106,101,99,116]⟩:ByteArray),lV none 0 0] (fun v4 H2=>∃ n5 n6,v4=.tuple #[iV n5,iV n6]∧cS 67 #[pV none,iV 4] (fun v7 H3=>shH (H3.push (.cells #[sV (⟨#[]⟩:ByteArray),sV (⟨#[]⟩:ByteArray),lV none 0 0,iV 0] 121)) fun C3=>∃ s8:ByteArray,shH (setH C3 (A0 H3.size) (sV s8)) fun C1=>∃ s9:ByteArray,∃ a10:Option Addr,∃ l10:Nat,∃ c10:Nat,shH (setH (setH C1 ((A0 H3.size).add 1) (sV s9)) ((A0 H3.size).add 2) (lV a10 l10 c10)) fun C2=>∃ n11 n12,v7=.tuple #[.agg #[sV s8,sV s9,lV a10 l10 c10,iV n11],iV n12]∧Wr C3 (A0 H3.size)∧Wr C1 ((A0 H3.size).add 1)∧Wr (setH C1 ((A0 H3.size).add 1) (sV s9)) ((A0 H3.size).add 2)∧Wr C2 ((A0 H3.size).add 3)∧cS 68 #[pV none,iV 0] (fun v13 H4=>∃ n14 n15,v13=.tuple #[iV n14,iV n15]∧cS 25 #[pV none,pV none] (fun v16 H5=>∃ p17 n18,v16=.tuple #[pV p17,iV n18]∧cS 18 #[pV none,sV (⟨#[71]⟩:ByteArray)] (fun v19 H6=>∃ n20,v19=iV n20∧cS 69 #[pV none,iV 0,iV 3] (fun v21 H7=>∃ n22,v21=iV n22∧∃(I23:IT) (μ23:MT),I23 [iV 0] (H7.push (.cells #[iV n3,iV n6,iV n12,iV n15,iV n18,iV n20,iV n22] 23))∧∀ w24 H8,I23 w24 H8→∀ _g:Nat→Value,∃ n25,w24=[iV n25]∧cond (decide (n25<(7:Int))) (((0:Int)≤n25∧n25<(7:Int))∧∃ q26,(some (A0 H7.size))=some q26∧∃ n27,cellH H8 (q26.add (Int.toNat n25*1))=some (iV n27)∧cS 12 #[iV n27] (fun v28 H9=>∃ n29,v28=iV n29∧cond (n29 != 2) (Q (.bool false) H9) (I23 [iV (wW (n25+1))] H9∧μ23 [iV (wW (n25+1))] H9<μ23 w24 H8)) H8) (cond (n2 == 0) (cond (n5 == 0) (∃ s30,cellH H8 (A0 H3.size)=some (sV s30)∧cond (strEq s30 (⟨#[]⟩:ByteArray)) (cond (n14 == 0) (cond (Option.isNone p17) (cS 70 #[pV none] (fun v31 H10=>∃ n32,v31=iV n32∧cond (n32 == 0) (cS 71 #[pV none] (fun v33 H11=>∃ a34 l34 c34,v33=lV a34 l34 c34∧cond ((l34:Int) == 0) (cS 72 #[pV none,iV 4] (fun v35 H12=>∃ a36 l36 c36,v35=lV a36 l36 c36∧cond ((l36:Int) == 0) (cS 19 #[pV none] (fun v37 H13=>∃ p38,v37=pV p38∧cond (Option.isNone p38) (cS 26 #[pV none] (fun v39 H14=>∃ p40,v39=pV p40∧Q (.bool (Option.isNone p40)) H14) H13) (Q (.bool false) H13)) H12) (Q (.bool false) H12)) H11) (Q (.bool false) H11)) H10) (Q (.bool false) H10)) H8) (Q (.bool false) H8)) (Q (.bool false) H8)) (Q (.bool false) H8)) (Q (.bool false) H8)) (Q (.bool false) H8))) H6) H5) H4) (setH C2 ((A0 H3.size).add 3) (iV n11))) H2) H1) H
theorem k13_ok  (h:k13  Q H):callS PP 13 #[] Q H :=
 callS_of good Tryz.func13 rfl (Ls:=fun | 9=>some [(13,3)] | _=>none) (by kernel_rfl) h
abbrev n_k15:Nat:=15
def k15 (p1:Option Addr) (p2:Option Addr) (Q:QT) (H:Heap):Prop :=
 callS PP 40 #[pV p2] (fun v3 H1=>∃ a4 l4 c4,v3=lV a4 l4 c4∧cS 70 #[pV p1] (fun v5 H2=>∃ n6,v5=iV n6∧True∧cond (n6 != (l4:Int)) (Q (.bool false) H2) (cS 71 #[pV p1] (fun v7 H3=>∃ a8 l8 c8,v7=lV a8 l8 c8∧True∧cS 78 #[pV p2] (fun v9 H4=>∃ a10 l10 c10,v9=lV a10 l10 c10∧True∧cS 77 #[lV a8 l8 c8,lV a10 l10 c10] (fun v11 H5=>∃ b12,v11=.bool b12∧True∧cond (!b12) (Q (.bool false) H5) (∃ q13,p2=some q13∧∃ p14,cellH H5 (q13.add 1)=some (pV p14)∧cS 26 #[pV p1] (fun v15 H6=>∃ p16,v15=pV p16∧((cellH H6 (q13.add 1)=some (pV p14)∧True)∧True)∧cS 79 #[pV p16] (fun v17 H7=>∃ a18 l18 c18,v17=lV a18 l18 c18∧((cellH H7 (q13.add 1)=some (pV p14)∧True)∧True)∧cS 80 #[pV p14] (fun v19 H8=>∃ a20 l20 c20,v19=lV a20 l20 c20∧True∧cS 77 #[lV a18 l18 c18,lV a20 l20 c20] (fun v21 H9=>∃ b22,v21=.bool b22∧True∧cond (!b22) (Q (.bool false) H9) (∃ q23,p2=some q23∧∃ p24,cellH H9 q23=some (pV p24)∧∃ q25,p24=some q25∧∃ p26,cellH H9 q25=some (pV p26)∧cS 19 #[pV p1] (fun v27 H10=>∃ p28,v27=pV p28∧((cellH H10 q25=some (pV p26)∧True)∧((cellH H10 q23=some (pV p24)∧True)∧True))∧cS 20 #[pV p28] (fun v29 H11=>∃ p30,v29=pV p30∧((cellH H11 q25=some (pV p26)∧True)∧((cellH H11 q23=some (pV p24)∧True)∧True))∧cS 81 #[pV p30] (fun v31 H12=>∃ n32,v31=iV n32∧((cellH H12 q25=some (pV p26)∧True)∧((cellH H12 q23=some (pV p24)∧True)∧True))∧cS 82 #[pV p26] (fun v33 H13=>∃ n34,v33=iV n34∧True∧cond (n32 != n34) (Q (.bool false) H13) (cS 19 #[pV p1] (fun v35 H14=>∃ p36,v35=pV p36∧True∧cS 83 #[pV p36] (fun v37 H15=>∃ a38 l38 c38,v37=lV a38 l38 c38∧True∧cond ((l38:Int) != 0) (Q (.bool false) H15) (∃(I39:IT) (μ39:MT),I39 [iV 0] H15∧∀ w40 H16,I39 w40 H16→∀ _g:Nat→Value,∃ n41,w40=[iV n41]∧cond (decide (n41<(l4:Int))) (((0:Int)≤n41∧n41<(l4:Int))∧∃ q42,a4=some q42∧∃ n43,cellH H16 (q42.add (Int.toNat n41*1))=some (iV n43)∧cS 84 #[pV p1,pV p2,iV n43] (fun v44 H17=>∃ b45,v44=.bool b45∧cond (!b45) (Q (.bool false) H17) (I39 [iV (wW (n41+1))] H17∧μ39 [iV (wW (n41+1))] H17<μ39 w40 H16)) H16) (cS 19 #[pV p1] (fun v46 H18=>∃ p47,v46=pV p47∧cS 85 #[pV p47] (fun v48 H19=>∃ n49 n50,v48=.tuple #[iV n49,iV n50]∧∃ q51,p2=some q51∧∃ p52,cellH H19 q51=some (pV p52)∧cS 86 #[pV p52] (fun v53 H20=>∃ n54 n55,v53=.tuple #[iV n54,iV n55]∧cond (n49 == n54) (Q (.bool (n50 == n55)) H20) (Q (.bool false) H20)) H19) H18) H16))) H14) H13)) H12) H11) H10) H9)) H8) H7) H6) H5)) H4) H3) H2)) H1) H
theorem k15_ok {p1:Option Addr}{p2:Option Addr} (h:k15 p1 p2 Q H):callS PP 15 #[.pointer p1,.pointer p2] Q H :=
 callS_of good Tryz.func15 rfl (Ls:=fun | 5=>some [(6,3)] | _=>none) (by kernel_rfl) h
abbrev n_k24:Nat:=24
def k24 (p1:Option Addr) (p2:Option Addr) (n3:Int) (n4:Int) (n5:Int) (s6:ByteArray) (s7:ByteArray) (a8:Option Addr) (l8:Nat) (c8:Nat) (Q:QT) (H:Heap):Prop :=
 shH (H.push (.cells #[iV n3,iV n4,iV n5,sV s6,sV s7,lV a8 l8 c8] 39)) fun C1=>∃ n9,cellH C1 (A0 H.size)=some (iV n9)∧cond (n9 == 1) (∃ a10 l10 c10,cellH C1 ((A0 H.size).add 5)=some (lV a10 l10 c10)∧cS 102 #[lV a10 l10 c10] (fun v11 H1=>∃ a12 l12 c12,v11=lV a12 l12 c12∧∃ s13,cellH H1 ((A0 H.size).add 3)=some (sV s13)∧∃ s14,cellH H1 ((A0 H.size).add 4)=some (sV s14)∧∃ a15 l15 c15,cellH H1 ((A0 H.size).add 5)=some (lV a15 l15 c15)∧((0:Int)≤(l15:Int)∧(l15:Int)≤(c12:Int))∧cS 17 #[pV p1,sV s13,sV s14,lV a12 (Int.toNat (l15:Int)) c12] (fun v16 H2=>∃ n17 n18,v16=.tuple #[iV n17,iV n18]∧True∧∃ s19,cellH H2 ((A0 H.size).add 3)=some (sV s19)∧∃ s20,cellH H2 ((A0 H.size).add 4)=some (sV s20)∧∃ a21 l21 c21,cellH H2 ((A0 H.size).add 5)=some (lV a21 l21 c21)∧cS 103 #[pV p2,sV s19,sV s20,lV a21 l21 c21] (fun v22 H3=>∃ n23 n24,v22=.tuple #[iV n23,iV n24]∧∃ a25 l25 c25,cellH H3 ((A0 H.size).add 5)=some (lV a25 l25 c25)∧cS 102 #[lV a25 l25 c25] (fun v26 H4=>∃ a27 l27 c27,v26=lV a27 l27 c27∧cS 77 #[lV a12 l12 c12,lV a27 l27 c27] (fun v28 H5=>∃ b29,v28=.bool b29∧cS 104 #[lV a12 l12 c12] (fun v30 H6=>v30=.tuple #[]∧cond (n17 == n23) (cS 12 #[iV n18] (fun v31 H7=>∃ n32,v31=iV n32∧cond (n32 == n24) (Q (.bool b29) H7) (Q (.bool false) H7)) H6) (Q (.bool false) H6)) H5) H4) H3) H2) H1) C1) (cond (n9 == 2) (∃ s33,cellH C1 ((A0 H.size).add 3)=some (sV s33)∧∃ s34,cellH C1 ((A0 H.size).add 3)=some (sV s34)∧cS 18 #[pV p1,sV s33] (fun v35 H8=>∃ n36,v35=iV n36∧((cellH H8 ((A0 H.size).add 3)=some (sV s34)∧True)∧True)∧cS 12 #[iV n36] (fun v37 H9=>∃ n38,v37=iV n38∧((cellH H9 ((A0 H.size).add 3)=some (sV s34)∧True)∧True)∧cS 27 #[pV p2,sV s34] (fun v39 H10=>∃ n40,v39=iV n40∧True∧Q (.bool (n38 == n40)) H10) H9) H8) C1) (cond (n9 == 3) (∃ n41,cellH C1 ((A0 H.size).add 1)=some (iV n41)∧∃ n42,cellH C1 ((A0 H.size).add 2)=some (iV n42)∧∃ n43,cellH C1 ((A0 H.size).add 1)=some (iV n43)∧∃ n44,cellH C1 ((A0 H.size).add 2)=some (iV n44)∧cS 69 #[pV p1,iV n41,iV n42] (fun v45 H11=>∃ n46,v45=iV n46∧((cellH H11 ((A0 H.size).add 2)=some (iV n44)∧True)∧((cellH H11 ((A0 H.size).add 1)=some (iV n43)∧True)∧True))∧cS 12 #[iV n46] (fun v47 H12=>∃ n48,v47=iV n48∧((cellH H12 ((A0 H.size).add 2)=some (iV n44)∧True)∧((cellH H12 ((A0 H.size).add 1)=some (iV n43)∧True)∧True))∧cS 105 #[pV p2,iV n43,iV n44] (fun v49 H13=>∃ n50,v49=iV n50∧True∧Q (.bool (n48 == n50)) H13) H12) H11) C1) (cond (n9 == 4) (∃ n51,cellH C1 ((A0 H.size).add 1)=some (iV n51)∧cS 68 #[pV p1,iV n51] (fun v52 H14=>∃ n53 n54,v52=.tuple #[iV n53,iV n54]∧∃ n55,cellH H14 ((A0 H.size).add 1)=some (iV n55)∧cS 106 #[pV p2,iV n55] (fun v56 H15=>∃ n57 n58,v56=.tuple #[iV n57,iV n58]∧cond (n53 == n57) (cS 12 #[iV n54] (fun v59 H16=>∃ n60,v59=iV n60∧Q (.bool (n60 == n58)) H16) H15) (Q (.bool false) H15)) H14) C1) (cond (n9 == 5) (∃ n61,cellH C1 ((A0 H.size).add 1)=some (iV n61)∧∃ q62,p2=some q62∧∃ p63,cellH C1 q62=some (pV p63)∧∃ q64,p63=some q64∧∃ p65,cellH C1 q64=some (pV p65)∧∃ n66,cellH C1 ((A0 H.size).add 1)=some (iV n66)∧cS 19 #[pV p1] (fun v67 H17=>∃ p68,v67=pV p68∧((cellH H17 ((A0 H.size).add 1)=some (iV n66)∧True)∧((cellH H17 q64=some (pV p65)∧True)∧((cellH H17 q62=some (pV p63)∧True)∧((cellH H17 ((A0 H.size).add 1)=some (iV n61)∧True)∧True))))∧cS 20 #[pV p68] (fun v69 H18=>∃ p70,v69=pV p70∧((cellH H18 ((A0 H.size).add 1)=some (iV n66)∧True)∧((cellH H18 q64=some (pV p65)∧True)∧((cellH H18 q62=some (pV p63)∧True)∧((cellH H18 ((A0 H.size).add 1)=some (iV n61)∧True)∧True))))∧cS 21 #[pV p70,iV n61] (fun v71 H19=>∃ n72,v71=iV n72∧((cellH H19 ((A0 H.size).add 1)=some (iV n66)∧True)∧((cellH H19 q64=some (pV p65)∧True)∧((cellH H19 q62=some (pV p63)∧True)∧True)))∧cS 12 #[iV n72] (fun v73 H20=>∃ n74,v73=iV n74∧((cellH H20 ((A0 H.size).add 1)=some (iV n66)∧True)∧((cellH H20 q64=some (pV p65)∧True)∧((cellH H20 q62=some (pV p63)∧True)∧True)))∧cS 107 #[pV p65,iV n66] (fun v75 H21=>∃ n76,v75=iV n76∧True∧Q (.bool (n74 == n76)) H21) H20) H19) H18) H17) C1) (cond (n9 == 6) (cS 19 #[pV p1] (fun v77 H22=>∃ p78,v77=pV p78∧cS 108 #[pV p78] (fun v79 H23=>∃ n80 n81 n82,v79=.tuple #[iV n80,iV n81,iV n82]∧∃ q83,p2=some q83∧∃ p84,cellH H23 q83=some (pV p84)∧cS 109 #[pV p84] (fun v85 H24=>∃ n86 n87 n88,v85=.tuple #[iV n86,iV n87,iV n88]∧Q (.bool true) H24) H23) H22) C1) (cond (n9 == 7) (∃ n89,cellH C1 ((A0 H.size).add 1)=some (iV n89)∧cS 84 #[pV p1,pV p2,iV n89] (fun v90 H25=>∃ b91,v90=.bool b91∧Q (.bool b91) H25) C1) (cond (n9 == 8) (∃ s92,cellH C1 ((A0 H.size).add 3)=some (sV s92)∧cS 66 #[pV p1,sV s92] (fun v93 H26=>∃ n94 n95,v93=.tuple #[iV n94,iV n95]∧∃ s96,cellH H26 ((A0 H.size).add 3)=some (sV s96)∧cS 110 #[pV p2,sV s96] (fun v97 H27=>∃ n98 n99,v97=.tuple #[iV n98,iV n99]∧cond (n94 == n98) (cS 12 #[iV n95] (fun v100 H28=>∃ n101,v100=iV n101∧Q (.bool (n101 == n99)) H28) H27) (Q (.bool false) H27)) H26) C1) (cond (n9 == 9) (∃ n102,cellH C1 ((A0 H.size).add 1)=some (iV n102)∧cS 14 #[pV p1,iV n102] (fun v103 H29=>∃ n104 n105,v103=.tuple #[iV n104,iV n105]∧∃ n106,cellH H29 ((A0 H.size).add 1)=some (iV n106)∧cS 111 #[pV p2,iV n106] (fun v107 H30=>∃ n108 n109,v107=.tuple #[iV n108,iV n109]∧cond (n104 == n108) (cS 12 #[iV n105] (fun v110 H31=>∃ n111,v110=iV n111∧Q (.bool (n111 == n109)) H31) H30) (Q (.bool false) H30)) H29) C1) (cond (n9 == 10) (∃ n112,cellH C1 ((A0 H.size).add 2)=some (iV n112)∧cS 112 #[pV p1,iV n112] (fun v113 H32=>∃ n114 n115,v113=.tuple #[iV n114,iV n115]∧∃ n116,cellH H32 ((A0 H.size).add 2)=some (iV n116)∧cS 113 #[pV p2,iV n116] (fun v117 H33=>∃ n118 n119,v117=.tuple #[iV n118,iV n119]∧cond (n114 == n118) (cS 12 #[iV n115] (fun v120 H34=>∃ n121,v120=iV n121∧Q (.bool (n121 == n119)) H34) H33) (Q (.bool false) H33)) H32) C1) (cond (n9 == 11) (cS 15 #[pV p1,pV p2] (fun v122 H35=>∃ b123,v122=.bool b123∧Q (.bool b123) H35) C1) (Q (.bool true) C1)))))))))))
theorem k24_ok {p1:Option Addr}{p2:Option Addr}{n3:Int}{n4:Int}{n5:Int}{s6:ByteArray}{s7:ByteArray}{a8:Option Addr}{l8:Nat}{c8:Nat} (h:k24 p1 p2 n3 n4 n5 s6 s7 a8 l8 c8 Q H):callS PP 24 #[.pointer p1,.pointer p2,.agg #[.int .i64 n3,.int .i64 n4,.int .i64 n5,.string s6,.string s7,.slice a8 l8 c8]] Q H :=
 okF Tryz.func24 rfl h
abbrev n_k28:Nat:=28
def k28 (p1:Option Addr) (p2:Option Addr) (Q:QT) (H:Heap):Prop :=
 callS PP 17 #[pV p1,sV (⟨#[67,111,110,101]⟩:ByteArray),sV (⟨#[79,98,106,101,99,116]⟩:ByteArray),lV (some (A0 H.size)) 2 2] (fun v3 H1=>∃ n4 n5,v3=.tuple #[iV n4,iV n5]∧((0:Int)≤0∧0<(2:Int))∧∃ q6,(some (A0 H.size))=some q6∧Wr H1 (q6.add (Int.toNat 0*1))∧cS 17 #[pV p1,sV (⟨#[67,116,119,111]⟩:ByteArray),sV (⟨#[79,98,106,101,99,116]⟩:ByteArray),lV (some (A0 H.size)) 2 2] (fun v7 H2=>∃ n8 n9,v7=.tuple #[iV n8,iV n9]∧((0:Int)≤1∧1<(2:Int))∧∃ q10,(some (A0 H.size))=some q10∧Wr H2 (q10.add (Int.toNat 1*1))∧cS 17 #[pV p1,sV (⟨#[67,116,104,114,101,101]⟩:ByteArray),sV (⟨#[79,98,106,101,99,116]⟩:ByteArray),lV (some (A0 H.size)) 2 2] (fun v11 H3=>∃ n12 n13,v11=.tuple #[iV n12,iV n13]∧cS 103 #[pV p2,sV (⟨#[67,111,110,101]⟩:ByteArray),sV (⟨#[79,98,106,101,99,116]⟩:ByteArray),lV (some (A0 H3.size)) 2 2] (fun v14 H4=>∃ n15 n16,v14=.tuple #[iV n15,iV n16]∧cS 103 #[pV p2,sV (⟨#[67,116,119,111]⟩:ByteArray),sV (⟨#[79,98,106,101,99,116]⟩:ByteArray),lV (some (A0 H4.size)) 2 2] (fun v17 H5=>∃ n18 n19,v17=.tuple #[iV n18,iV n19]∧cS 103 #[pV p2,sV (⟨#[67,116,104,114,101,101]⟩:ByteArray),sV (⟨#[79,98,106,101,99,116]⟩:ByteArray),lV (some (A0 H5.size)) 2 2] (fun v20 H6=>∃ n21 n22,v20=.tuple #[iV n21,iV n22]∧cond (n4 == n15) (cS 12 #[iV n5] (fun v23 H7=>∃ n24,v23=iV n24∧cond (n24 == n16) (cond (n8 == n18) (cS 12 #[iV n9] (fun v25 H8=>∃ n26,v25=iV n26∧cond (n26 == n19) (cond (n12 == n21) (cS 12 #[iV n13] (fun v27 H9=>∃ n28,v27=iV n28∧Q (.bool (n28 == n22)) H9) H8) (Q (.bool false) H8)) (Q (.bool false) H8)) H7) (Q (.bool false) H7)) (Q (.bool false) H7)) H6) (Q (.bool false) H6)) (H5.push (.cells #[sV (⟨#[97,122]⟩:ByteArray),sV (⟨#[97,122]⟩:ByteArray)] 9))) (H4.push (.cells #[sV (⟨#[97,122]⟩:ByteArray),sV (⟨#[97,121]⟩:ByteArray)] 9))) (H3.push (.cells #[sV (⟨#[97,120]⟩:ByteArray),sV (⟨#[97,121]⟩:ByteArray)] 9))) (setH H2 (q10.add (Int.toNat 1*1)) (sV (⟨#[97,122]⟩:ByteArray)))) (setH H1 (q6.add (Int.toNat 0*1)) (sV (⟨#[97,122]⟩:ByteArray)))) (H.push (.cells #[sV (⟨#[97,120]⟩:ByteArray),sV (⟨#[97,121]⟩:ByteArray)] 9))
theorem k28_ok {p1:Option Addr}{p2:Option Addr} (h:k28 p1 p2 Q H):callS PP 28 #[.pointer p1,.pointer p2] Q H :=
 okF Tryz.func28 rfl h
abbrev n_k29:Nat:=29
def k29 (p1:Option Addr) (p2:Option Addr) (Q:QT) (H:Heap):Prop :=
 ∃(I3:IT) (μ3:MT),I3 [iV 0] (H.push (.cells #[lV none 0 0,lV none 0 0,lV none 0 0,lV none 0 0] 180))∧∀ w4 H1,I3 w4 H1→∀ _g:Nat→Value,∃ n5,w4=[iV n5]∧cond (decide (n5<2)) (∃ q6,some (A0 H.size)=some q6∧∃ a7 l7 c7,cellH H1 (q6.add 1)=some (lV a7 l7 c7)∧cS 78 #[pV p2] (fun v8 H2=>∃ a9 l9 c9,v8=lV a9 l9 c9∧((cellH H2 (q6.add 1)=some (lV a7 l7 c7)∧True)∧True)∧((cellH (H2.push (.cells #[lV a9 l9 c9] 37)) (q6.add 1)=some (lV a7 l7 c7)∧True)∧True)∧evS PP (Builtin.append_ #[80,80] 80 #[lV a7 l7 c7,lV (some (A0 H2.size)) 1 1]) (fun v10 H3=>∃ a11 l11 c11,v10=lV a11 l11 c11∧True∧∃ q12,some (A0 H.size)=some q12∧Wr H3 (q12.add 1)∧True∧∃ q13,some (A0 H.size)=some q13∧∃ a14 l14 c14,cellH (setH H3 (q12.add 1) (lV a11 l11 c11)) q13=some (lV a14 l14 c14)∧cS 71 #[pV p1] (fun v15 H4=>∃ a16 l16 c16,v15=lV a16 l16 c16∧((cellH H4 q13=some (lV a14 l14 c14)∧True)∧True)∧((cellH (H4.push (.cells #[lV a16 l16 c16] 37)) q13=some (lV a14 l14 c14)∧True)∧True)∧evS PP (Builtin.append_ #[80,80] 80 #[lV a14 l14 c14,lV (some (A0 H4.size)) 1 1]) (fun v17 H5=>∃ a18 l18 c18,v17=lV a18 l18 c18∧True∧∃ q19,some (A0 H.size)=some q19∧Wr H5 q19∧True∧I3 [iV (wW (n5+1))] (setH H5 q19 (lV a18 l18 c18))∧μ3 [iV (wW (n5+1))] (setH H5 q19 (lV a18 l18 c18))<μ3 w4 H1) (H4.push (.cells #[lV a16 l16 c16] 37))) (setH H3 (q12.add 1) (lV a11 l11 c11))) (H2.push (.cells #[lV a9 l9 c9] 37))) H1) (cS 40 #[pV p2] (fun v20 H6=>∃ a21 l21 c21,v20=lV a21 l21 c21∧∃(I22:IT) (μ22:MT),I22 [iV 0] H6∧∀ w23 H7,I22 w23 H7→∀ _g:Nat→Value,∃ n24,w23=[iV n24]∧cond (decide (n24<(l21:Int))) (∃(I25:IT) (μ25:MT),I25 [iV 0] H7∧∀ w26 H8,I25 w26 H8→∀ _g:Nat→Value,∃ n27,w26=[iV n27]∧cond (decide (n27<2)) (((0:Int)≤n24∧n24<(l21:Int))∧∃ q28,a21=some q28∧∃ n29,cellH H8 (q28.add (Int.toNat n24*1))=some (iV n29)∧cS 124 #[pV p2,iV n29] (fun v30 H9=>shH (H9.push (.cells #[sV (⟨#[]⟩:ByteArray),sV (⟨#[]⟩:ByteArray),lV none 0 0,iV 0] 121)) fun C5=>∃ s31:ByteArray,∃ s32:ByteArray,shH (setH (setH C5 (A0 H9.size) (sV s31)) ((A0 H9.size).add 1) (sV s32)) fun C2=>∃ a33:Option Addr,∃ l33:Nat,∃ c33:Nat,shH (setH C2 ((A0 H9.size).add 2) (lV a33 l33 c33)) fun C6=>∃ n34 n35,v30=.tuple #[.agg #[sV s31,sV s32,lV a33 l33 c33,iV n34],iV n35]∧Wr C5 (A0 H9.size)∧Wr (setH C5 (A0 H9.size) (sV s31)) ((A0 H9.size).add 1)∧Wr C2 ((A0 H9.size).add 2)∧Wr C6 ((A0 H9.size).add 3)∧((0:Int)≤n24∧n24<(l21:Int))∧∃ q36,a21=some q36∧∃ n37,cellH (setH C6 ((A0 H9.size).add 3) (iV n34)) (q36.add (Int.toNat n24*1))=some (iV n37)∧cS 67 #[pV p1,iV n37] (fun v38 H10=>shH (H10.push (.cells #[sV (⟨#[]⟩:ByteArray),sV (⟨#[]⟩:ByteArray),lV none 0 0,iV 0] 121)) fun C3=>∃ s39:ByteArray,∃ s40:ByteArray,shH (setH (setH C3 (A0 H10.size) (sV s39)) ((A0 H10.size).add 1) (sV s40)) fun C7=>∃ a41:Option Addr,∃ l41:Nat,∃ c41:Nat,shH (setH C7 ((A0 H10.size).add 2) (lV a41 l41 c41)) fun C1=>∃ n42:Int,shH (setH C1 ((A0 H10.size).add 3) (iV n42)) fun C4=>∃ n43,v38=.tuple #[.agg #[sV s39,sV s40,lV a41 l41 c41,iV n42],iV n43]∧Wr C3 (A0 H10.size)∧Wr (setH C3 (A0 H10.size) (sV s39)) ((A0 H10.size).add 1)∧Wr C7 ((A0 H10.size).add 2)∧Wr C1 ((A0 H10.size).add 3)∧∃ q44,some (A0 H.size)=some q44∧∃ a45 l45 c45,cellH C4 q44=some (lV a45 l45 c45)∧∃ a46 l46 c46,cellH C4 ((A0 H10.size).add 2)=some (lV a46 l46 c46)∧((cellH (C4.push (.cells #[lV a46 l46 c46] 37)) q44=some (lV a45 l45 c45)∧True)∧True)∧evS PP (Builtin.append_ #[80,80] 80 #[lV a45 l45 c45,lV (some (A0 C4.size)) 1 1]) (fun v47 H11=>∃ a48 l48 c48,v47=lV a48 l48 c48∧True∧∃ q49,some (A0 H.size)=some q49∧Wr H11 q49∧True∧∃ q50,some (A0 H.size)=some q50∧∃ a51 l51 c51,cellH (setH H11 q49 (lV a48 l48 c48)) (q50.add 1)=some (lV a51 l51 c51)∧∃ a52 l52 c52,cellH (setH H11 q49 (lV a48 l48 c48)) ((A0 H9.size).add 2)=some (lV a52 l52 c52)∧((cellH ((setH H11 q49 (lV a48 l48 c48)).push (.cells #[lV a52 l52 c52] 37)) (q50.add 1)=some (lV a51 l51 c51)∧True)∧True)∧evS PP (Builtin.append_ #[80,80] 80 #[lV a51 l51 c51,lV (some (⟨(setH H11 q49 (lV a48 l48 c48)).size,0,none⟩:Addr)) 1 1]) (fun v53 H12=>∃ a54 l54 c54,v53=lV a54 l54 c54∧True∧∃ q55,some (A0 H.size)=some q55∧Wr H12 (q55.add 1)∧True∧I25 [iV (wW (n27+1))] (setH H12 (q55.add 1) (lV a54 l54 c54))∧μ25 [iV (wW (n27+1))] (setH H12 (q55.add 1) (lV a54 l54 c54))<μ25 w26 H8) ((setH H11 q49 (lV a48 l48 c48)).push (.cells #[lV a52 l52 c52] 37))) (C4.push (.cells #[lV a46 l46 c46] 37))) (setH C6 ((A0 H9.size).add 3) (iV n34))) H8) (∃(I56:IT) (μ56:MT),I56 [iV 0] H8∧∀ w57 H13,I56 w57 H13→∀ _g:Nat→Value,∃ n58,w57=[iV n58]∧cond (decide (n58<2)) (((0:Int)≤n24∧n24<(l21:Int))∧∃ q59,a21=some q59∧∃ n60,cellH H13 (q59.add (Int.toNat n24*1))=some (iV n60)∧cS 125 #[pV p2,iV n60] (fun v61 H14=>∃ a62 l62 c62 n63,v61=.tuple #[lV a62 l62 c62,iV n63]∧((0:Int)≤n24∧n24<(l21:Int))∧∃ q64,a21=some q64∧∃ n65,cellH H14 (q64.add (Int.toNat n24*1))=some (iV n65)∧cS 101 #[pV p1,iV n65] (fun v66 H15=>∃ a67 l67 c67 n68,v66=.tuple #[lV a67 l67 c67,iV n68]∧∃ q69,some (A0 H.size)=some q69∧∃ a70 l70 c70,cellH H15 q69=some (lV a70 l70 c70)∧evS PP (Builtin.append_ #[80,80] 80 #[lV a70 l70 c70,lV (some (A0 H15.size)) 1 1]) (fun v71 H16=>∃ a72 l72 c72,v71=lV a72 l72 c72∧∃ q73,some (A0 H.size)=some q73∧Wr H16 q73∧∃ q74,some (A0 H.size)=some q74∧∃ a75 l75 c75,cellH (setH H16 q73 (lV a72 l72 c72)) (q74.add 1)=some (lV a75 l75 c75)∧evS PP (Builtin.append_ #[80,80] 80 #[lV a75 l75 c75,lV (some (⟨(setH H16 q73 (lV a72 l72 c72)).size,0,none⟩:Addr)) 1 1]) (fun v76 H17=>∃ a77 l77 c77,v76=lV a77 l77 c77∧∃ q78,some (A0 H.size)=some q78∧Wr H17 (q78.add 1)∧I56 [iV (wW (n58+1))] (setH H17 (q78.add 1) (lV a77 l77 c77))∧μ56 [iV (wW (n58+1))] (setH H17 (q78.add 1) (lV a77 l77 c77))<μ56 w57 H13) ((setH H16 q73 (lV a72 l72 c72)).push (.cells #[lV a62 l62 c62] 37))) (H15.push (.cells #[lV a67 l67 c67] 37))) H14) H13) (∃(I79:IT) (μ79:MT),I79 [iV 0] H13∧∀ w80 H18,I79 w80 H18→∀ _g:Nat→Value,∃ n81,w80=[iV n81]∧cond (decide (n81<2)) (∃ q82,some (A0 H.size)=some q82∧∃ a83 l83 c83,cellH H18 (q82.add 3)=some (lV a83 l83 c83)∧((0:Int)≤n24∧n24<(l21:Int))∧∃ q84,a21=some q84∧∃ n85,cellH H18 (q84.add (Int.toNat n24*1))=some (iV n85)∧cS 126 #[pV p2,iV n85] (fun v86 H19=>∃ a87 l87 c87,v86=lV a87 l87 c87∧((cellH H19 (q82.add 3)=some (lV a83 l83 c83)∧True)∧True)∧((cellH (H19.push (.cells #[lV a87 l87 c87] 66)) (q82.add 3)=some (lV a83 l83 c83)∧True)∧True)∧evS PP (Builtin.append_ #[178,178] 178 #[lV a83 l83 c83,lV (some (A0 H19.size)) 1 1]) (fun v88 H20=>∃ a89 l89 c89,v88=lV a89 l89 c89∧True∧∃ q90,some (A0 H.size)=some q90∧Wr H20 (q90.add 3)∧True∧∃ q91,some (A0 H.size)=some q91∧∃ a92 l92 c92,cellH (setH H20 (q90.add 3) (lV a89 l89 c89)) (q91.add 2)=some (lV a92 l92 c92)∧((0:Int)≤n24∧n24<(l21:Int))∧∃ q93,a21=some q93∧∃ n94,cellH (setH H20 (q90.add 3) (lV a89 l89 c89)) (q93.add (Int.toNat n24*1))=some (iV n94)∧cS 72 #[pV p1,iV n94] (fun v95 H21=>∃ a96 l96 c96,v95=lV a96 l96 c96∧((cellH H21 (q91.add 2)=some (lV a92 l92 c92)∧True)∧True)∧((cellH (H21.push (.cells #[lV a96 l96 c96] 66)) (q91.add 2)=some (lV a92 l92 c92)∧True)∧True)∧evS PP (Builtin.append_ #[178,178] 178 #[lV a92 l92 c92,lV (some (A0 H21.size)) 1 1]) (fun v97 H22=>∃ a98 l98 c98,v97=lV a98 l98 c98∧True∧∃ q99,some (A0 H.size)=some q99∧Wr H22 (q99.add 2)∧True∧I79 [iV (wW (n81+1))] (setH H22 (q99.add 2) (lV a98 l98 c98))∧μ79 [iV (wW (n81+1))] (setH H22 (q99.add 2) (lV a98 l98 c98))<μ79 w80 H18) (H21.push (.cells #[lV a96 l96 c96] 66))) (setH H20 (q90.add 3) (lV a89 l89 c89))) (H19.push (.cells #[lV a87 l87 c87] 66))) H18) (I22 [iV (wW (n24+1))] H18∧μ22 [iV (wW (n24+1))] H18<μ22 w23 H7)))) (Q (pV (some (A0 H.size))) H7)) H1)
theorem k29_ok {p1:Option Addr}{p2:Option Addr} (h:k29 p1 p2 Q H):callS PP 29 #[.pointer p1,.pointer p2] Q H :=
 callS_of good Tryz.func29 rfl (Ls:=fun | 3=>some [(6,3)] | 9=>some [(8,3)] | 12=>some [(9,3)] | 19=>some [(14,3)] | 26=>some [(19,3)] | _=>none) (by kernel_rfl) h
abbrev n_k77:Nat:=77
def k77 (a1:Option Addr) (l1:Nat) (_c1:Nat) (a2:Option Addr) (l2:Nat) (_c2:Nat) (Q:QT) (H:Heap):Prop :=
 cond ((l1:Int) != (l2:Int)) (Q (.bool false) H) (∃(I3:IT) (μ3:MT),I3 [iV 0] H∧∀ w4 H1,I3 w4 H1→∀ _g:Nat→Value,∃ n5,w4=[iV n5]∧cond (decide (n5<(l1:Int))) (((0:Int)≤n5∧n5<(l1:Int))∧∃ q6,a1=some q6∧∃ s7,cellH H1 (q6.add (Int.toNat n5*1))=some (sV s7)∧((0:Int)≤n5∧n5<(l2:Int))∧∃ q8,a2=some q8∧∃ s9,cellH H1 (q8.add (Int.toNat n5*1))=some (sV s9)∧cond (!(strEq s7 s9)) (Q (.bool false) H1) (I3 [iV (wW (n5+1))] H1∧μ3 [iV (wW (n5+1))] H1<μ3 w4 H1)) (Q (.bool true) H1))
theorem k77_ok {a1:Option Addr}{l1:Nat}{c1:Nat}{a2:Option Addr}{l2:Nat}{c2:Nat} (h:k77 a1 l1 c1 a2 l2 c2 Q H):callS PP 77 #[.slice a1 l1 c1,.slice a2 l2 c2] Q H :=
 callS_of good Tryz.func77 rfl (Ls:=fun | 4=>some [(5,3)] | _=>none) (by kernel_rfl) h
abbrev n_k84:Nat:=84
def k84 (p1:Option Addr) (p2:Option Addr) (n3:Int) (Q:QT) (H:Heap):Prop :=
 callS PP 67 #[pV p1,iV n3] (fun v4 H1=>shH (H1.push (.cells #[sV (⟨#[]⟩:ByteArray),sV (⟨#[]⟩:ByteArray),lV none 0 0,iV 0] 121)) fun C5=>∃ s5:ByteArray,shH (setH C5 (A0 H1.size) (sV s5)) fun C2=>∃ s6:ByteArray,∃ a7:Option Addr,∃ l7:Nat,∃ c7:Nat,shH (setH (setH C2 ((A0 H1.size).add 1) (sV s6)) ((A0 H1.size).add 2) (lV a7 l7 c7)) fun C4=>∃ n8 n9,v4=.tuple #[.agg #[sV s5,sV s6,lV a7 l7 c7,iV n8],iV n9]∧Wr C5 (A0 H1.size)∧Wr C2 ((A0 H1.size).add 1)∧Wr (setH C2 ((A0 H1.size).add 1) (sV s6)) ((A0 H1.size).add 2)∧Wr C4 ((A0 H1.size).add 3)∧cS 124 #[pV p2,iV n3] (fun v10 H2=>shH (H2.push (.cells #[sV (⟨#[]⟩:ByteArray),sV (⟨#[]⟩:ByteArray),lV none 0 0,iV 0] 121)) fun C6=>∃ s11:ByteArray,shH (setH C6 (A0 H2.size) (sV s11)) fun C1=>∃ s12:ByteArray,∃ a13:Option Addr,∃ l13:Nat,∃ c13:Nat,shH (setH (setH C1 ((A0 H2.size).add 1) (sV s12)) ((A0 H2.size).add 2) (lV a13 l13 c13)) fun C3=>∃ n14 n15,v10=.tuple #[.agg #[sV s11,sV s12,lV a13 l13 c13,iV n14],iV n15]∧Wr C6 (A0 H2.size)∧Wr C1 ((A0 H2.size).add 1)∧Wr (setH C1 ((A0 H2.size).add 1) (sV s12)) ((A0 H2.size).add 2)∧Wr C3 ((A0 H2.size).add 3)∧cS 12 #[iV n9] (fun v16 H3=>∃ n17,v16=iV n17∧cond (n17 != n15) (Q (.bool false) H3) (∃ s18,cellH H3 (A0 H1.size)=some (sV s18)∧∃ s19,cellH H3 ((A0 H1.size).add 1)=some (sV s19)∧∃ a20 l20 c20,cellH H3 ((A0 H1.size).add 2)=some (lV a20 l20 c20)∧∃ n21,cellH H3 ((A0 H1.size).add 3)=some (iV n21)∧∃ s22,cellH H3 (A0 H2.size)=some (sV s22)∧∃ s23,cellH H3 ((A0 H2.size).add 1)=some (sV s23)∧∃ a24 l24 c24,cellH H3 ((A0 H2.size).add 2)=some (lV a24 l24 c24)∧∃ n25,cellH H3 ((A0 H2.size).add 3)=some (iV n25)∧cS 100 #[.agg #[sV s18,sV s19,lV a20 l20 c20,iV n21],.agg #[sV s22,sV s23,lV a24 l24 c24,iV n25]] (fun v26 H4=>∃ b27,v26=.bool b27∧cond (!b27) (Q (.bool false) H4) (cS 188 #[pV p1,iV n3] (fun v28 H5=>∃ n29 n30,v28=.tuple #[iV n29,iV n30]∧cS 189 #[pV p2,iV n3] (fun v31 H6=>∃ n32 n33,v31=.tuple #[iV n32,iV n33]∧cond (n29 != n32) (Q (.bool false) H6) (cS 12 #[iV n30] (fun v34 H7=>∃ n35,v34=iV n35∧cond (n35 != n33) (Q (.bool false) H7) (cS 190 #[pV p1,iV n3] (fun v36 H8=>∃ n37 n38,v36=.tuple #[iV n37,iV n38]∧cS 191 #[pV p2,iV n3] (fun v39 H9=>∃ n40 n41,v39=.tuple #[iV n40,iV n41]∧cond (n37 != n40) (Q (.bool false) H9) (cS 12 #[iV n38] (fun v42 H10=>∃ n43,v42=iV n43∧cond (n43 != n41) (Q (.bool false) H10) (cS 192 #[pV p1,iV n3] (fun v44 H11=>∃ n45 n46,v44=.tuple #[iV n45,iV n46]∧cS 193 #[pV p2,iV n3] (fun v47 H12=>∃ n48 n49,v47=.tuple #[iV n48,iV n49]∧cond (n45 != n48) (Q (.bool false) H12) (cS 12 #[iV n46] (fun v50 H13=>∃ n51,v50=iV n51∧cond (n51 != n49) (Q (.bool false) H13) (cS 101 #[pV p1,iV n3] (fun v52 H14=>∃ a53 l53 c53 n54,v52=.tuple #[lV a53 l53 c53,iV n54]∧cS 125 #[pV p2,iV n3] (fun v55 H15=>∃ a56 l56 c56 n57,v55=.tuple #[lV a56 l56 c56,iV n57]∧cS 12 #[iV n54] (fun v58 H16=>∃ n59,v58=iV n59∧cond (n59 == n57) (cS 77 #[lV a53 l53 c53,lV a56 l56 c56] (fun v60 H17=>∃ b61,v60=.bool b61∧cond b61 (cS 72 #[pV p1,iV n3] (fun v62 H18=>∃ a63 l63 c63,v62=lV a63 l63 c63∧cS 126 #[pV p2,iV n3] (fun v64 H19=>∃ a65 l65 c65,v64=lV a65 l65 c65∧cS 127 #[lV a63 l63 c63,lV a65 l65 c65] (fun v66 H20=>∃ b67,v66=.bool b67∧Q (.bool b67) H20) H19) H18) H17) (Q (.bool false) H17)) H16) (Q (.bool false) H16)) H15) H14) H13)) H12)) H11) H10)) H9)) H8) H7)) H6)) H5) H4)) H3)) (setH C3 ((A0 H2.size).add 3) (iV n14))) (setH C4 ((A0 H1.size).add 3) (iV n8))) H
theorem k84_ok {p1:Option Addr}{p2:Option Addr}{n3:Int} (h:k84 p1 p2 n3 Q H):callS PP 84 #[.pointer p1,.pointer p2,.int .i64 n3] Q H :=
 okF Tryz.func84 rfl h
abbrev n_k100:Nat:=100
def k100 (s1:ByteArray) (s2:ByteArray) (a3:Option Addr) (l3:Nat) (c3:Nat) (n4:Int) (s5:ByteArray) (s6:ByteArray) (a7:Option Addr) (l7:Nat) (c7:Nat) (n8:Int) (Q:QT) (H:Heap):Prop :=
 shH (H.push (.cells #[sV s1,sV s2,lV a3 l3 c3,iV n4] 121)) fun C2=>shH (C2.push (.cells #[sV s5,sV s6,lV a7 l7 c7,iV n8] 121)) fun C1=>∃ s9,cellH C1 (A0 H.size)=some (sV s9)∧∃ s10,cellH C1 (A0 C2.size)=some (sV s10)∧cond (strEq s9 s10) (∃ s11,cellH C1 ((A0 H.size).add 1)=some (sV s11)∧∃ s12,cellH C1 ((A0 C2.size).add 1)=some (sV s12)∧cond (strEq s11 s12) (∃ n13,cellH C1 ((A0 H.size).add 3)=some (iV n13)∧∃ n14,cellH C1 ((A0 C2.size).add 3)=some (iV n14)∧cond (n13 == n14) (∃ a15 l15 c15,cellH C1 ((A0 H.size).add 2)=some (lV a15 l15 c15)∧∃ a16 l16 c16,cellH C1 ((A0 C2.size).add 2)=some (lV a16 l16 c16)∧cS 77 #[lV a15 l15 c15,lV a16 l16 c16] (fun v17 H1=>∃ b18,v17=.bool b18∧Q (.bool b18) H1) C1) (Q (.bool false) C1)) (Q (.bool false) C1)) (Q (.bool false) C1)
theorem k100_ok {s1:ByteArray}{s2:ByteArray}{a3:Option Addr}{l3:Nat}{c3:Nat}{n4:Int}{s5:ByteArray}{s6:ByteArray}{a7:Option Addr}{l7:Nat}{c7:Nat}{n8:Int} (h:k100 s1 s2 a3 l3 c3 n4 s5 s6 a7 l7 c7 n8 Q H):callS PP 100 #[.agg #[.string s1,.string s2,.slice a3 l3 c3,.int .i64 n4],.agg #[.string s5,.string s6,.slice a7 l7 c7,.int .i64 n8]] Q H :=
 okF Tryz.func100 rfl h
abbrev n_k102:Nat:=102
def k102 (a1:Option Addr) (l1:Nat) (_c1:Nat) (Q:QT) (H:Heap):Prop :=
 ∃(I2:IT) (μ2:MT),I2 [lV none 0 0,iV 0] H∧∀ w3 H1,I2 w3 H1→∀ _g:Nat→Value,∃ a4 l4 c4 n5,w3=[lV a4 l4 c4,iV n5]∧cond (decide (n5<(l1:Int))) (((0:Int)≤n5∧n5<(l1:Int))∧∃ q6,a1=some q6∧∃ s7,cellH H1 (q6.add (Int.toNat n5*1))=some (sV s7)∧evS PP (Builtin.append_ #[37,37] 37 #[lV a4 l4 c4,lV (some (A0 H1.size)) 1 1]) (fun v8 H2=>∃ a9 l9 c9,v8=lV a9 l9 c9∧I2 [lV a9 l9 c9,iV (wW (n5+1))] H2∧μ2 [lV a9 l9 c9,iV (wW (n5+1))] H2<μ2 w3 H1) (H1.push (.cells #[sV s7] 9))) (∃(I10:IT) (μ10:MT),I10 [lV a4 l4 c4,iV 0] H1∧∀ w11 H3,I10 w11 H3→∀ _g:Nat→Value,∃ a12 l12 c12 n13,w11=[lV a12 l12 c12,iV n13]∧cond (decide (n13<8)) (evS PP (Builtin.append_ #[37,37] 37 #[lV a12 l12 c12,lV (some (A0 H3.size)) 1 1]) (fun v14 H4=>∃ a15 l15 c15,v14=lV a15 l15 c15∧I10 [lV a15 l15 c15,iV (wW (n13+1))] H4∧μ10 [lV a15 l15 c15,iV (wW (n13+1))] H4<μ10 w11 H3) (H3.push (.cells #[sV (⟨#[109,97,114,107]⟩:ByteArray)] 9))) (Q (lV a12 l12 c12) H3))
theorem k102_ok {a1:Option Addr}{l1:Nat}{c1:Nat} (h:k102 a1 l1 c1 Q H):callS PP 102 #[.slice a1 l1 c1] Q H :=
 callS_of good Tryz.func102 rfl (Ls:=fun | 3=>some [(3,37),(4,3)] | 7=>some [(3,37),(5,3)] | _=>none) (by kernel_rfl) h
abbrev n_k104:Nat:=104
def k104 (a1:Option Addr) (l1:Nat) (_c1:Nat) (Q:QT) (H:Heap):Prop :=
 ∃(I2:IT) (μ2:MT),I2 [iV 0] H∧∀ w3 H1,I2 w3 H1→∀ _g:Nat→Value,∃ n4,w3=[iV n4]∧cond (decide (n4<(l1:Int))) (((0:Int)≤n4∧n4<(l1:Int))∧∃ q5,shH (setH H1 (q5.add (Int.toNat n4*1)) (sV (⟨#[111,118,101,114]⟩:ByteArray))) fun C1=>a1=some q5∧Wr H1 (q5.add (Int.toNat n4*1))∧I2 [iV (wW (n4+1))] C1∧μ2 [iV (wW (n4+1))] C1<μ2 w3 H1) (Q (.tuple #[]) H1)
theorem k104_ok {a1:Option Addr}{l1:Nat}{c1:Nat} (h:k104 a1 l1 c1 Q H):callS PP 104 #[.slice a1 l1 c1] Q H :=
 callS_of good Tryz.func104 rfl (Ls:=fun | 1=>some [(2,3)] | _=>none) (by kernel_rfl) h
abbrev n_k127:Nat:=127
def k127 (a1:Option Addr) (l1:Nat) (_c1:Nat) (a2:Option Addr) (l2:Nat) (_c2:Nat) (Q:QT) (H:Heap):Prop :=
 cond ((l1:Int) != (l2:Int)) (Q (.bool false) H) (∃(I3:IT) (μ3:MT),I3 [iV 0] H∧∀ w4 H1,I3 w4 H1→∀ _g:Nat→Value,∃ n5,w4=[iV n5]∧cond (decide (n5<(l1:Int))) (((0:Int)≤n5∧n5<(l1:Int))∧∃ q6,a1=some q6∧∃ n7,cellH H1 (q6.add (Int.toNat n5*1))=some (iV n7)∧((0:Int)≤n5∧n5<(l2:Int))∧∃ q8,a2=some q8∧∃ n9,cellH H1 (q8.add (Int.toNat n5*1))=some (iV n9)∧cond (n7 != n9) (Q (.bool false) H1) (I3 [iV (wW (n5+1))] H1∧μ3 [iV (wW (n5+1))] H1<μ3 w4 H1)) (Q (.bool true) H1))
theorem k127_ok {a1:Option Addr}{l1:Nat}{c1:Nat}{a2:Option Addr}{l2:Nat}{c2:Nat} (h:k127 a1 l1 c1 a2 l2 c2 Q H):callS PP 127 #[.slice a1 l1 c1,.slice a2 l2 c2] Q H :=
 callS_of good Tryz.func127 rfl (Ls:=fun | 4=>some [(5,3)] | _=>none) (by kernel_rfl) h
abbrev n_k128:Nat:=128
def k128 (n1:Int) (Q:QT) (H:Heap):Prop :=
 evS PP (convert 214 9 (lV (some (A0 H.size)) 3 3)) (fun v2 H1=>∃ s3,v2=sV s3∧Q (sV s3) H1) (H.push (.cells #[.int .u8 109,.int .u8 (IntKind.wrap .u8 (shrI .i64 n1 8)),.int .u8 (IntKind.wrap .u8 n1)] 5))
theorem k128_ok {n1:Int} (h:k128 n1 Q H):callS PP 128 #[.int .i64 n1] Q H :=
 okF Tryz.func128 rfl h
end Go.Proofs.YtmkdkplipbocjaaGreatDoor
namespace Go.Proofs.YtmkdkplipbocjaaGreatDoor
open Kw
section
variable {H:Heap}{Q:QT}
theorem num1_c {n:Int} (h:Q (.int .i64 n) H):callS PP n_k12 #[.int .i64 n] Q H:=by
 apply k12_ok
 unfold k12 iV
 exact h
theorem same_c {a1 a2:Option Addr}{l1 l2 c1 c2:Nat}{xs ys:List ByteArray} (h1:Rd 1 H a1 l1 (strsV xs)) (h2:Rd 1 H a2 l2 (strsV ys)) (hb:l1≤1000000000000000) (h:Q (.bool (decide (xs=ys))) H):callS PP n_k77 #[.slice a1 l1 c1,.slice a2 l2 c2] Q H:=by
 have e1:l1=xs.length:=by have:=h1.1;simpa [strsV] using this.symm
 have e2:l2=ys.length:=by have:=h2.1;simpa [strsV] using this.symm
 apply k77_ok
 unfold k77 iV wW sV
 have no:xs≠ys→Q (.bool false) H:=fun hn=>by rw [decide_eq_false hn] at h;exact h
 rw [bneI,cond_dec]
 refine ite_i (fun hne=>no fun e=>hne (by rw [e1,e2,e])) fun hne=>?_
 have hlen:l1=l2:=by omega
 refine ⟨fun w H'=>H'=H∧∃ i:Nat,w=[.int .i64 i]∧i≤l1∧xs.take i=ys.take i,fun w _=>match w with
  | [.int _ i]=>(l1-i).toNat
  | _=>0,⟨rfl,0,rfl,Nat.zero_le _,rfl⟩,?_⟩
 rintro w H1 ⟨rfl,i,rfl,hi,hall⟩ _
 refine ⟨_,rfl,?_⟩
 rw [cond_dec]
 refine ite_i (fun hlt=>?_) fun hlt=>?_
 ·obtain ⟨p,hp2,rfl,hc1⟩:=h1.str (i:=(i:Int)) (by omega) (by omega)
  obtain ⟨q,hq2,rfl,hc2⟩:=h2.str (i:=(i:Int)) (by omega) (by omega)
  simp only [Int.toNat_natCast] at hc1 hp2 hc2 hq2
  have e:IntKind.wrap .i64 ((i:Int)+1)=((i+1:Nat):Int):=by rw [wrap64_id (by omega) (by omega)];omega
  refine ⟨⟨by omega,by omega⟩,_,rfl,_,by rw [Int.toNat_natCast,Nat.mul_one];exact hc1,⟨by omega,by omega⟩,_,rfl,_,by rw [Int.toNat_natCast,Nat.mul_one];exact hc2,?_⟩
  rw [strEq_dec,←decide_not,cond_dec]
  refine ite_i (fun he=>no fun e=>he (by subst e;rfl)) fun he=>?_
  rw [e]
  have he':xs[i]=ys[i]:=Classical.byContradiction he
  refine ⟨⟨rfl,i+1,rfl,by omega,?_⟩,by simp;omega⟩
  rw [List.take_add_one,List.take_add_one,List.getElem?_eq_getElem hp2,List.getElem?_eq_getElem hq2,hall,he']
 ·have hil:i=l1:=by omega
  subst hil
  rw [List.take_of_length_le (by omega),List.take_of_length_le (by omega)] at hall
  rw [decide_eq_true hall] at h
  exact h
theorem sameInts_c {a1 a2:Option Addr}{l1 l2 c1 c2:Nat}{xs ys:List Int} (h1:Rd 1 H a1 l1 (intsV xs)) (h2:Rd 1 H a2 l2 (intsV ys)) (hb:l1≤1000000000000000) (h:Q (.bool (decide (xs=ys))) H):callS PP n_k127 #[.slice a1 l1 c1,.slice a2 l2 c2] Q H:=by
 have e1:l1=xs.length:=by have:=h1.1;simpa [intsV] using this.symm
 have e2:l2=ys.length:=by have:=h2.1;simpa [intsV] using this.symm
 apply k127_ok
 unfold k127 iV wW
 have no:xs≠ys→Q (.bool false) H:=fun hn=>by rw [decide_eq_false hn] at h;exact h
 rw [bneI,cond_dec]
 refine ite_i (fun hne=>no fun e=>hne (by rw [e1,e2,e])) fun hne=>?_
 have hlen:l1=l2:=by omega
 refine ⟨fun w H'=>H'=H∧∃ i:Nat,w=[.int .i64 i]∧i≤l1∧xs.take i=ys.take i,fun w _=>match w with
  | [.int _ i]=>(l1-i).toNat
  | _=>0,⟨rfl,0,rfl,Nat.zero_le _,rfl⟩,?_⟩
 rintro w H1 ⟨rfl,i,rfl,hi,hall⟩ _
 refine ⟨_,rfl,?_⟩
 rw [cond_dec]
 refine ite_i (fun hlt=>?_) fun hlt=>?_
 ·obtain ⟨p,rfl,hc1,hp2⟩:=h1.int (i:=(i:Int)) (by omega) (by omega)
  obtain ⟨q,rfl,hc2,hq2⟩:=h2.int (i:=(i:Int)) (by omega) (by omega)
  simp only [Int.toNat_natCast] at hc1 hp2 hc2 hq2
  have hx:xs.getD i 0=xs[i]:=by simp [hp2]
  have hy:ys.getD i 0=ys[i]:=by simp [hq2]
  rw [hx] at hc1
  rw [hy] at hc2
  have e:IntKind.wrap .i64 ((i:Int)+1)=((i+1:Nat):Int):=by rw [wrap64_id (by omega) (by omega)];omega
  refine ⟨⟨by omega,by omega⟩,_,rfl,_,by rw [Int.toNat_natCast,Nat.mul_one];exact hc1,⟨by omega,by omega⟩,_,rfl,_,by rw [Int.toNat_natCast,Nat.mul_one];exact hc2,?_⟩
  rw [bneI,cond_dec]
  refine ite_i (fun he=>no fun e=>he (by subst e;rfl)) fun he=>?_
  rw [e]
  have he':xs[i]=ys[i]:=Classical.byContradiction he
  refine ⟨⟨rfl,i+1,rfl,by omega,?_⟩,by simp;omega⟩
  rw [List.take_add_one,List.take_add_one,List.getElem?_eq_getElem hp2,List.getElem?_eq_getElem hq2,hall,he']
 ·have hil:i=l1:=by omega
  subst hil
  rw [List.take_of_length_le (by omega),List.take_of_length_le (by omega)] at hall
  rw [decide_eq_true hall] at h
  exact h
theorem sameInfo_c {x:CI}{a1 a2:Option Addr}{l1 l2 c1 c2:Nat} (h1:Rd 1 H a1 l1 (strsV x.own)) (h2:Rd 1 H a2 l2 (strsV x.own)) (hb:l1≤1000000000000000) (h:∀ H',Fr [] H H'→Q (.bool true) H') :
  callS PP n_k100 #[.agg #[.string x.name,.string x.sup,.slice a1 l1 c1,.int .i64 x.lay],.agg #[.string x.name,.string x.sup,.slice a2 l2 c2,.int .i64 x.lay]] Q H:=by
 apply k100_ok
 unfold k100 A0 iV sV lV cS;dsimp only [shH]
 have f1:=Fr.push [] H (.cells #[.string x.name,.string x.sup,.slice a1 l1 c1,.int .i64 x.lay] 121)
 have hB1:=Blk.new H #[.string x.name,.string x.sup,.slice a1 l1 c1,.int .i64 x.lay] 121
 generalize (H.push (.cells #[.string x.name,.string x.sup,.slice a1 l1 c1,.int .i64 x.lay] 121))=G1 at f1 hB1 ⊢
 have f2:=Fr.push [] G1 (.cells #[.string x.name,.string x.sup,.slice a2 l2 c2,.int .i64 x.lay] 121)
 have hB2:=Blk.new G1 #[.string x.name,.string x.sup,.slice a2 l2 c2,.int .i64 x.lay] 121
 have hB1':=hB1.fr f2 (by simp)
 generalize (G1.push (.cells #[.string x.name,.string x.sup,.slice a2 l2 c2,.int .i64 x.lay] 121))=G2 at f2 hB2 hB1' ⊢
 have f12:=f1.trans f2
 refine ⟨_,hB1'.cell 0,_,hB2.cell 0,?_⟩
 rw [strEq_dec,cond_dec,if_pos rfl]
 refine ⟨_,hB1'.cell 1,_,hB2.cell 1,?_⟩
 rw [strEq_dec,cond_dec,if_pos rfl]
 refine ⟨_,hB1'.cell 3,_,hB2.cell 3,?_⟩
 rw [beqI,cond_dec,if_pos rfl]
 refine ⟨_,_,_,hB1'.cell 2,_,_,_,hB2.cell 2,same_c (h1.fr' f12 (by simp)) (h2.fr' f12 (by simp)) hb ⟨_,rfl,?_⟩⟩
 rw [decide_eq_true rfl]
 exact h _ f12
end
section
variable {H:Heap}{bp br:Nat}{Fp Fq:Foot}{s:SP}{t:TB}{v:KV}{Q:QT}
theorem infoK_len (hv:KAll s t v){i:Nat} (hi:i<v.cls.length):(infoK v t i).own.length≤8192:=by
 have:=((hv.ks.view.own hi).bnd hv.ks.wf.h).2.2.1
 rw [(infoK_name hi).2];simpa using this
theorem asked2 (hP:PK H bp Fp s t) (hR:RK H br Fq s t) (hv:KAll s t v){o:Int} (h:∀ H',Fr [] H H'→Q (.bool true) H') :
  callS PP 188 #[.pointer (some ⟨bp,0,none⟩:Option Addr),.int .i64 o] (fun v28 H5=>∃ n29:Int,∃ o0:Int,v28=.tuple #[.int .i64 n29,.int .i64 o0]∧callS PP 189 #[.pointer (some ⟨br,0,none⟩:Option Addr),.int .i64 o] (fun v31 H6=>∃ o2:Int,∃ o3:Int,v31=.tuple #[.int .i64 o2,.int .i64 o3]∧cond (n29 != o2) (Q (.bool false) H6) (callS PP 12 #[.int .i64 o0] (fun v34 H7=>∃ o5:Int,v34=.int .i64 o5∧cond (o5 != o3) (Q (.bool false) H7) (callS PP 190 #[.pointer (some ⟨bp,0,none⟩:Option Addr),.int .i64 o] (fun v36 H8=>∃ o7:Int,∃ o8:Int,v36=.tuple #[.int .i64 o7,.int .i64 o8]∧callS PP 191 #[.pointer (some ⟨br,0,none⟩:Option Addr),.int .i64 o] (fun v39 H9=>∃ n40:Int,∃ n41:Int,v39=.tuple #[.int .i64 n40,.int .i64 n41]∧cond (o7 != n40) (Q (.bool false) H9) (callS PP 12 #[.int .i64 o8] (fun v42 H10=>∃ n43:Int,v42=.int .i64 n43∧cond (n43 != n41) (Q (.bool false) H10) (callS PP 192 #[.pointer (some ⟨bp,0,none⟩:Option Addr),.int .i64 o] (fun v44 H11=>∃ n45:Int,∃ n46:Int,v44=.tuple #[.int .i64 n45,.int .i64 n46]∧callS PP 193 #[.pointer (some ⟨br,0,none⟩:Option Addr),.int .i64 o] (fun v47 H12=>∃ n48:Int,∃ n49:Int,v47=.tuple #[.int .i64 n48,.int .i64 n49]∧cond (n45 != n48) (Q (.bool false) H12) (callS PP 12 #[.int .i64 n46] (fun v50 H13=>∃ n51:Int,v50=.int .i64 n51∧cond (n51 != n49) (Q (.bool false) H13) (callS PP 101 #[.pointer (some ⟨bp,0,none⟩:Option Addr),.int .i64 o] (fun v52 H14=>∃ a53:Option Addr,∃ l53:Nat,∃ c53:Nat,∃ n54:Int,v52=.tuple #[.slice a53 l53 c53,.int .i64 n54]∧callS PP 125 #[.pointer (some ⟨br,0,none⟩:Option Addr),.int .i64 o] (fun v55 H15=>∃ a56:Option Addr,∃ l56:Nat,∃ c56:Nat,∃ n57:Int,v55=.tuple #[.slice a56 l56 c56,.int .i64 n57]∧callS PP 12 #[.int .i64 n54] (fun v58 H16=>∃ n59:Int,v58=.int .i64 n59∧cond (n59 == n57) (callS PP 77 #[.slice a53 l53 c53,.slice a56 l56 c56] (fun v60 H17=>∃ b61:Bool,v60=.bool b61∧cond b61 (callS PP 72 #[.pointer (some ⟨bp,0,none⟩:Option Addr),.int .i64 o] (fun v62 H18=>∃ a63:Option Addr,∃ l63:Nat,∃ c63:Nat,v62=.slice a63 l63 c63∧callS PP 126 #[.pointer (some ⟨br,0,none⟩:Option Addr),.int .i64 o] (fun v64 H19=>∃ a65:Option Addr,∃ l65:Nat,∃ c65:Nat,v64=.slice a65 l65 c65∧callS PP 127 #[.slice a63 l63 c63,.slice a65 l65 c65] (fun v66 H20=>∃ b67:Bool,v66=.bool b67∧Q (.bool b67) H20) H19) H18) H17) (Q (.bool false) H17)) H16) (Q (.bool false) H16)) H15) H14) H13)) H12)) H11) H10)) H9)) H8) H7)) H6)) H5) H:=by
 have hm1:=hv.ks.shape.many1
 refine number_k hP hv fun H1 f1=>?_
 have F1:=f1
 obtain ⟨nn,ne,e1⟩:∃ nn ne:Int,(match plK v o with | some i=>Value.tuple #[.int .i64 ((i:Int)+1),.int .i64 0] | none=>.tuple #[.int .i64 0,.int .i64 130])=.tuple #[.int .i64 nn,.int .i64 ne]:=by
  cases plK v o with
  | none=>exact ⟨_,_,rfl⟩
  | some i=>exact ⟨_,_,rfl⟩
 refine ⟨nn,ne,e1,number_r (hR.nil F1) hv fun H2 f2=>?_⟩
 have F2:=F1.trans f2
 refine ⟨nn,ne,e1,?_⟩
 rw [bneI,cond_dec,if_neg (fun hn=>hn rfl)]
 refine num1_c ⟨_,rfl,?_⟩
 rw [bneI,cond_dec,if_neg (fun hn=>hn rfl)]
 refine ksuper_k (hP.nil F2) hv fun H3 f3=>?_
 have F3:=F2.trans f3
 obtain ⟨sn,se,e2⟩:∃ nn ne:Int,(match plK v o with | some i=>Value.tuple #[.int .i64 (superK v i),.int .i64 0] | none=>.tuple #[.int .i64 0,.int .i64 130])=.tuple #[.int .i64 nn,.int .i64 ne]:=by
  cases plK v o with
  | none=>exact ⟨_,_,rfl⟩
  | some i=>exact ⟨_,_,rfl⟩
 refine ⟨sn,se,e2,super_r (hR.nil F3) hv fun H4 f4=>?_⟩
 have F4:=F3.trans f4
 refine ⟨sn,se,e2,?_⟩
 rw [bneI,cond_dec,if_neg (fun hn=>hn rfl)]
 refine num1_c ⟨_,rfl,?_⟩
 rw [bneI,cond_dec,if_neg (fun hn=>hn rfl)]
 refine layout_k (hP.nil F4) hv fun H5 f5=>?_
 have F5:=F4.trans f5
 obtain ⟨ln,le,e3⟩:∃ nn ne:Int,(match plK v o with | some i=>Value.tuple #[.int .i64 (infoK v t i).lay,.int .i64 0] | none=>.tuple #[.int .i64 0,.int .i64 130])=.tuple #[.int .i64 nn,.int .i64 ne]:=by
  cases plK v o with
  | none=>exact ⟨_,_,rfl⟩
  | some i=>exact ⟨_,_,rfl⟩
 refine ⟨ln,le,e3,layout_r (hR.nil F5) hv fun H6 f6=>?_⟩
 have F6:=F5.trans f6
 refine ⟨ln,le,e3,?_⟩
 rw [bneI,cond_dec,if_neg (fun hn=>hn rfl)]
 refine num1_c ⟨_,rfl,?_⟩
 rw [bneI,cond_dec,if_neg (fun hn=>hn rfl)]
 have fin:∀ (H9:Heap),Fr [] H H9→callS PP n_k72 #[.pointer (some ⟨bp,0,none⟩),.int .i64 o] (fun v62 H18=>∃ a63:Option Addr,∃ l63:Nat,∃ c63:Nat,v62=.slice a63 l63 c63∧callS PP n_k126 #[.pointer (some ⟨br,0,none⟩),.int .i64 o] (fun v64 H19=>∃ a65:Option Addr,∃ l65:Nat,∃ c65:Nat,v64=.slice a65 l65 c65∧callS PP n_k127 #[.slice a63 l63 c63,.slice a65 l65 c65] (fun v66 H20=>∃ b67:Bool,v66=.bool b67∧Q (.bool b67) H20) H19) H18) H9:=by
  intro H9 F9
  have rdnil:∀ {H':Heap},Rd 1 H' none 0 (intsV []):=fun {H'}=>(Own.nil 1 H').rd
  cases hp:plK v o with
  | none =>
   refine under_k (hP.nil F9) hv (fun i hp'=>by rw [hp] at hp';cases hp') fun _ H10 f10=>⟨_,_,_,rfl,?_⟩
   refine under_r (hR.nil (F9.trans f10)) hv (fun i hp'=>by rw [hp] at hp';cases hp') fun _ H11 f11=>⟨_,_,_,rfl,?_⟩
   refine sameInts_c rdnil rdnil (by decide) ⟨_,rfl,?_⟩
   rw [decide_eq_true rfl];exact h _ ((F9.trans f10).trans f11)
  | some i =>
   have hul:(underK v o).length≤v.cls.length:=by
    unfold underK
    rw [List.length_map]
    exact Nat.le_trans (List.length_filter_le _ _) (by simp)
   refine under_k (hP.nil F9) hv (fun i _ a l c G H10 ho f10 hG=>⟨_,_,_,rfl,?_⟩) fun hp'=>by rw [hp] at hp';cases hp'
   have hl:l=(underK v o).length:=by have:=ho.len;simpa [intsV] using this.symm
   refine under_r (hR.nil (F9.trans f10)) hv (fun i _ a2 l2 c2 G2 H11 ho2 f11 hG2=>⟨_,_,_,rfl,?_⟩) fun hp'=>by rw [hp] at hp';cases hp'
   refine sameInts_c (ho.fr f11 (by simp)).rd ho2.rd (by omega) ⟨_,rfl,?_⟩
   rw [decide_eq_true rfl];exact h _ ((F9.trans f10).trans f11)
 cases hp:plK v o with
 | none =>
  refine kfields_k (hP.nil F6) hv (fun i hp'=>by rw [hp] at hp';cases hp') fun _ H7 f7=>⟨_,_,_,_,rfl,?_⟩
  have F7:=F6.trans f7
  refine fields_r (hR.nil F7) hv (fun i hp'=>by rw [hp] at hp';cases hp') fun _ H8 f8=>⟨_,_,_,_,rfl,num1_c ⟨_,rfl,?_⟩⟩
  rw [beqI,cond_dec,if_pos rfl]
  have rdnil:Rd 1 H8 none 0 (strsV []):=(Own.nil 1 H8).rd
  refine same_c rdnil rdnil (by decide) ⟨_,rfl,?_⟩
  rw [decide_eq_true rfl]
  exact fin H8 (F7.trans f8)
 | some i =>
  obtain ⟨hi,_⟩:=plK_some hp
  have hfl:=fields_len hv.ks i hi
  refine kfields_k (hP.nil F6) hv (fun i' hp' a l c G H7 ho f7 hG=>?_) fun hp'=>by rw [hp] at hp';cases hp'
  rw [hp] at hp';cases hp'
  refine ⟨_,_,_,_,rfl,?_⟩
  have F7:=F6.trans f7
  have hl:l=(fieldsK v i).length:=by have:=ho.len;simpa [strsV] using this.symm
  refine fields_r (hR.nil F7) hv (fun i' hp' a2 l2 c2 G2 H8 ho2 f8 hG2=>?_) fun hp'=>by rw [hp] at hp';cases hp'
  rw [hp] at hp';cases hp'
  refine ⟨_,_,_,_,rfl,num1_c ⟨_,rfl,?_⟩⟩
  rw [beqI,cond_dec,if_pos rfl]
  refine same_c (ho.fr f8 (by simp)).rd ho2.rd (by omega) ⟨_,rfl,?_⟩
  rw [decide_eq_true rfl]
  exact fin H8 (F7.trans f8)
end
section
variable {H:Heap}{bp br:Nat}{Fp Fq:Foot}{s:SP}{t:TB}{v:KV}{Q:QT}
theorem asked_c (hP:PK H bp Fp s t) (hR:RK H br Fq s t) (hv:KAll s t v){o:Int} (h:∀ H',Fr [] H H'→Q (.bool true) H'):callS PP n_k84 #[.pointer (some ⟨bp,0,none⟩),.pointer (some ⟨br,0,none⟩),.int .i64 o] Q H:=by
 apply k84_ok
 unfold k84 A0 iV pV sV lV cS;dsimp only [shH]
 have go:∀ (x:CI) (e:Int) (a1:Option Addr) (l1 c1:Nat) (H1:Heap),Fr [] H H1→Rd 1 H1 a1 l1 (strsV x.own)→l1≤8192 →
   (∀ {H2:Heap},Fr [] H H2→∀ {Q':Value→Heap→Prop},(∀ a2 l2 c2 H3,Fr [] H2 H3→Rd 1 H3 a2 l2 (strsV x.own)→Q' (.tuple #[.agg #[.string x.name,.string x.sup,.slice a2 l2 c2,.int .i64 x.lay],.int .i64 e]) H3)→callS PP n_k124 #[.pointer (some ⟨br,0,none⟩),.int .i64 o] Q' H2) →
   ∃ s5:ByteArray,∃ s6:ByteArray,∃ a7:Option Addr,∃ l7:Nat,∃ c7:Nat,∃ n8:Int,∃ n9:Int,(Value.tuple #[.agg #[.string x.name,.string x.sup,.slice a1 l1 c1,.int .i64 x.lay],.int .i64 e])=.tuple #[.agg #[.string s5,.string s6,.slice a7 l7 c7,.int .i64 n8],.int .i64 n9]∧Wr (H1.push (.cells #[.string (⟨#[]⟩:ByteArray),.string (⟨#[]⟩:ByteArray),.slice none 0 0,.int .i64 0] 121)) (⟨H1.size,0,none⟩:Addr)∧Wr (setH (H1.push (.cells #[.string (⟨#[]⟩:ByteArray),.string (⟨#[]⟩:ByteArray),.slice none 0 0,.int .i64 0] 121)) (⟨H1.size,0,none⟩:Addr) (.string s5)) ((⟨H1.size,0,none⟩:Addr).add 1)∧Wr (setH (setH (H1.push (.cells #[.string (⟨#[]⟩:ByteArray),.string (⟨#[]⟩:ByteArray),.slice none 0 0,.int .i64 0] 121)) (⟨H1.size,0,none⟩:Addr) (.string s5)) ((⟨H1.size,0,none⟩:Addr).add 1) (.string s6)) ((⟨H1.size,0,none⟩:Addr).add 2)∧Wr (setH (setH (setH (H1.push (.cells #[.string (⟨#[]⟩:ByteArray),.string (⟨#[]⟩:ByteArray),.slice none 0 0,.int .i64 0] 121)) (⟨H1.size,0,none⟩:Addr) (.string s5)) ((⟨H1.size,0,none⟩:Addr).add 1) (.string s6)) ((⟨H1.size,0,none⟩:Addr).add 2) (.slice a7 l7 c7)) ((⟨H1.size,0,none⟩:Addr).add 3)∧callS PP 124 #[.pointer (some ⟨br,0,none⟩:Option Addr),.int .i64 o] (fun v10 H2=>∃ s11:ByteArray,∃ s12:ByteArray,∃ a13:Option Addr,∃ l13:Nat,∃ c13:Nat,∃ n14:Int,∃ n15:Int,v10=.tuple #[.agg #[.string s11,.string s12,.slice a13 l13 c13,.int .i64 n14],.int .i64 n15]∧Wr (H2.push (.cells #[.string (⟨#[]⟩:ByteArray),.string (⟨#[]⟩:ByteArray),.slice none 0 0,.int .i64 0] 121)) (⟨H2.size,0,none⟩:Addr)∧Wr (setH (H2.push (.cells #[.string (⟨#[]⟩:ByteArray),.string (⟨#[]⟩:ByteArray),.slice none 0 0,.int .i64 0] 121)) (⟨H2.size,0,none⟩:Addr) (.string s11)) ((⟨H2.size,0,none⟩:Addr).add 1)∧Wr (setH (setH (H2.push (.cells #[.string (⟨#[]⟩:ByteArray),.string (⟨#[]⟩:ByteArray),.slice none 0 0,.int .i64 0] 121)) (⟨H2.size,0,none⟩:Addr) (.string s11)) ((⟨H2.size,0,none⟩:Addr).add 1) (.string s12)) ((⟨H2.size,0,none⟩:Addr).add 2)∧Wr (setH (setH (setH (H2.push (.cells #[.string (⟨#[]⟩:ByteArray),.string (⟨#[]⟩:ByteArray),.slice none 0 0,.int .i64 0] 121)) (⟨H2.size,0,none⟩:Addr) (.string s11)) ((⟨H2.size,0,none⟩:Addr).add 1) (.string s12)) ((⟨H2.size,0,none⟩:Addr).add 2) (.slice a13 l13 c13)) ((⟨H2.size,0,none⟩:Addr).add 3)∧callS PP 12 #[.int .i64 n9] (fun v16 H3=>∃ n17:Int,v16=.int .i64 n17∧cond (n17 != n15) (Q (.bool false) H3) (∃ s18:ByteArray,cellH H3 (⟨H1.size,0,none⟩:Addr)=some (.string s18)∧∃ s19:ByteArray,cellH H3 ((⟨H1.size,0,none⟩:Addr).add 1)=some (.string s19)∧∃ a20:Option Addr,∃ l20:Nat,∃ c20:Nat,cellH H3 ((⟨H1.size,0,none⟩:Addr).add 2)=some (.slice a20 l20 c20)∧∃ n21:Int,cellH H3 ((⟨H1.size,0,none⟩:Addr).add 3)=some (.int .i64 n21)∧∃ s22:ByteArray,cellH H3 (⟨H2.size,0,none⟩:Addr)=some (.string s22)∧∃ s23:ByteArray,cellH H3 ((⟨H2.size,0,none⟩:Addr).add 1)=some (.string s23)∧∃ a24:Option Addr,∃ l24:Nat,∃ c24:Nat,cellH H3 ((⟨H2.size,0,none⟩:Addr).add 2)=some (.slice a24 l24 c24)∧∃ n25:Int,cellH H3 ((⟨H2.size,0,none⟩:Addr).add 3)=some (.int .i64 n25)∧callS PP 100 #[.agg #[.string s18,.string s19,.slice a20 l20 c20,.int .i64 n21],.agg #[.string s22,.string s23,.slice a24 l24 c24,.int .i64 n25]] (fun v26 H4=>∃ b27:Bool,v26=.bool b27∧cond (!b27) (Q (.bool false) H4) (callS PP 188 #[.pointer (some ⟨bp,0,none⟩:Option Addr),.int .i64 o] (fun v28 H5=>∃ n29:Int,∃ o0:Int,v28=.tuple #[.int .i64 n29,.int .i64 o0]∧callS PP 189 #[.pointer (some ⟨br,0,none⟩:Option Addr),.int .i64 o] (fun v31 H6=>∃ o2:Int,∃ o3:Int,v31=.tuple #[.int .i64 o2,.int .i64 o3]∧cond (n29 != o2) (Q (.bool false) H6) (callS PP 12 #[.int .i64 o0] (fun v34 H7=>∃ o5:Int,v34=.int .i64 o5∧cond (o5 != o3) (Q (.bool false) H7) (callS PP 190 #[.pointer (some ⟨bp,0,none⟩:Option Addr),.int .i64 o] (fun v36 H8=>∃ o7:Int,∃ o8:Int,v36=.tuple #[.int .i64 o7,.int .i64 o8]∧callS PP 191 #[.pointer (some ⟨br,0,none⟩:Option Addr),.int .i64 o] (fun v39 H9=>∃ n40:Int,∃ n41:Int,v39=.tuple #[.int .i64 n40,.int .i64 n41]∧cond (o7 != n40) (Q (.bool false) H9) (callS PP 12 #[.int .i64 o8] (fun v42 H10=>∃ n43:Int,v42=.int .i64 n43∧cond (n43 != n41) (Q (.bool false) H10) (callS PP 192 #[.pointer (some ⟨bp,0,none⟩:Option Addr),.int .i64 o] (fun v44 H11=>∃ n45:Int,∃ n46:Int,v44=.tuple #[.int .i64 n45,.int .i64 n46]∧callS PP 193 #[.pointer (some ⟨br,0,none⟩:Option Addr),.int .i64 o] (fun v47 H12=>∃ n48:Int,∃ n49:Int,v47=.tuple #[.int .i64 n48,.int .i64 n49]∧cond (n45 != n48) (Q (.bool false) H12) (callS PP 12 #[.int .i64 n46] (fun v50 H13=>∃ n51:Int,v50=.int .i64 n51∧cond (n51 != n49) (Q (.bool false) H13) (callS PP 101 #[.pointer (some ⟨bp,0,none⟩:Option Addr),.int .i64 o] (fun v52 H14=>∃ a53:Option Addr,∃ l53:Nat,∃ c53:Nat,∃ n54:Int,v52=.tuple #[.slice a53 l53 c53,.int .i64 n54]∧callS PP 125 #[.pointer (some ⟨br,0,none⟩:Option Addr),.int .i64 o] (fun v55 H15=>∃ a56:Option Addr,∃ l56:Nat,∃ c56:Nat,∃ n57:Int,v55=.tuple #[.slice a56 l56 c56,.int .i64 n57]∧callS PP 12 #[.int .i64 n54] (fun v58 H16=>∃ n59:Int,v58=.int .i64 n59∧cond (n59 == n57) (callS PP 77 #[.slice a53 l53 c53,.slice a56 l56 c56] (fun v60 H17=>∃ b61:Bool,v60=.bool b61∧cond b61 (callS PP 72 #[.pointer (some ⟨bp,0,none⟩:Option Addr),.int .i64 o] (fun v62 H18=>∃ a63:Option Addr,∃ l63:Nat,∃ c63:Nat,v62=.slice a63 l63 c63∧callS PP 126 #[.pointer (some ⟨br,0,none⟩:Option Addr),.int .i64 o] (fun v64 H19=>∃ a65:Option Addr,∃ l65:Nat,∃ c65:Nat,v64=.slice a65 l65 c65∧callS PP 127 #[.slice a63 l63 c63,.slice a65 l65 c65] (fun v66 H20=>∃ b67:Bool,v66=.bool b67∧Q (.bool b67) H20) H19) H18) H17) (Q (.bool false) H17)) H16) (Q (.bool false) H16)) H15) H14) H13)) H12)) H11) H10)) H9)) H8) H7)) H6)) H5) H4)) H3)) (setH (setH (setH (setH (H2.push (.cells #[.string (⟨#[]⟩:ByteArray),.string (⟨#[]⟩:ByteArray),.slice none 0 0,.int .i64 0] 121)) (⟨H2.size,0,none⟩:Addr) (.string s11)) ((⟨H2.size,0,none⟩:Addr).add 1) (.string s12)) ((⟨H2.size,0,none⟩:Addr).add 2) (.slice a13 l13 c13)) ((⟨H2.size,0,none⟩:Addr).add 3) (.int .i64 n14))) (setH (setH (setH (setH (H1.push (.cells #[.string (⟨#[]⟩:ByteArray),.string (⟨#[]⟩:ByteArray),.slice none 0 0,.int .i64 0] 121)) (⟨H1.size,0,none⟩:Addr) (.string s5)) ((⟨H1.size,0,none⟩:Addr).add 1) (.string s6)) ((⟨H1.size,0,none⟩:Addr).add 2) (.slice a7 l7 c7)) ((⟨H1.size,0,none⟩:Addr).add 3) (.int .i64 n8)):=by
  intro x e a1 l1 c1 H1 f1 h1 hl1 hInfo
  have fp:=Fr.push [] H1 (.cells #[.string (⟨#[]⟩:ByteArray),.string (⟨#[]⟩:ByteArray),.slice none 0 0,.int .i64 0] 121)
  have hB:=Blk.new H1 #[.string (⟨#[]⟩:ByteArray),.string (⟨#[]⟩:ByteArray),.slice none 0 0,.int .i64 0] 121
  refine ⟨_,_,_,_,_,_,_,rfl,?_⟩
  generalize (H1.push (.cells #[.string (⟨#[]⟩:ByteArray),.string (⟨#[]⟩:ByteArray),.slice none 0 0,.int .i64 0] 121))=G1 at fp hB ⊢
  obtain ⟨w0,w1,w2,w3,hB1,hf1⟩:=st4 hB (o:=0) (by simp) (.string x.name) (.string x.sup) (.slice a1 l1 c1) (.int .i64 x.lay)
  have F1:=(Up.fresh (f1.trans fp) (F:=[H1.size]) (F':=[H1.size]) ⟨hf1,fun _ h=>.inl h⟩ (by have:=f1.1;simpa using this)).1
  have h1':=(h1.fr' fp (by simp))
  refine ⟨w0,w1,w2,w3,hInfo F1 fun a2 l2 c2 H2 f2 h2=>?_⟩
  have hL1:Blk _ H1.size #[.string x.name,.string x.sup,.slice a1 l1 c1,.int .i64 x.lay]:=hB1
  have h1b:=h1.fr' (Up.fresh fp (F:=[H1.size]) (F':=[H1.size]) ⟨hf1,fun _ h=>.inl h⟩ (by simp)).1 (by simp)
  have h1c:=h1b.fr' f2 (by simp)
  have hL1':=hL1.fr f2 (by simp)
  have F2:=F1.trans f2
  have hs12:H1.size<H2.size:=hL1'.lt
  refine ⟨_,_,_,_,_,_,_,rfl,?_⟩
  have fp2:=Fr.push [] H2 (.cells #[.string (⟨#[]⟩:ByteArray),.string (⟨#[]⟩:ByteArray),.slice none 0 0,.int .i64 0] 121)
  have hB2:=Blk.new H2 #[.string (⟨#[]⟩:ByteArray),.string (⟨#[]⟩:ByteArray),.slice none 0 0,.int .i64 0] 121
  generalize (H2.push (.cells #[.string (⟨#[]⟩:ByteArray),.string (⟨#[]⟩:ByteArray),.slice none 0 0,.int .i64 0] 121))=G2 at fp2 hB2 ⊢
  obtain ⟨u0,u1,u2,u3,hB3,hf3⟩:=st4 hB2 (o:=0) (by simp) (.string x.name) (.string x.sup) (.slice a2 l2 c2) (.int .i64 x.lay)
  have F3:=(Up.fresh (F2.trans fp2) (F:=[H2.size]) (F':=[H2.size]) ⟨hf3,fun _ h=>.inl h⟩ (by have:=F2.1;simpa using this)).1
  have hL2:Blk _ H2.size #[.string x.name,.string x.sup,.slice a2 l2 c2,.int .i64 x.lay]:=hB3
  have hL1'':=(hL1'.fr fp2 (by simp)).fr hf3 (by simp;omega)
  have lim:∀ {a:Option Addr}{l:Nat}{ys:List ByteArray},Rd 1 H2 a l (strsV ys)→Rd 1 (setH (setH (setH (setH G2 ⟨H2.size,0,none⟩ (.string x.name)) ⟨H2.size,0+1,none⟩ (.string x.sup)) ⟨H2.size,0+2,none⟩ (.slice a2 l2 c2)) ⟨H2.size,0+3,none⟩ (.int .i64 x.lay)) a l (strsV ys):=by
   intro a l ys hr
   exact hr.fr' (Up.fresh fp2 (F:=[H2.size]) (F':=[H2.size]) ⟨hf3,fun _ h=>.inl h⟩ (by simp)).1 (by simp)
  refine ⟨u0,u1,u2,u3,num1_c ⟨_,rfl,?_⟩⟩
  rw [bneI,cond_dec,if_neg (fun hn=>hn rfl)]
  refine ⟨_,hL1''.cell 0,_,hL1''.cell 1,_,_,_,hL1''.cell 2,_,hL1''.cell 3,_,hL2.cell 0,_,hL2.cell 1,_,_,_,hL2.cell 2,_,hL2.cell 3,sameInfo_c (lim h1c) (lim h2) (by omega) fun H4 f4=>⟨_,rfl,?_⟩⟩
  simp only [Bool.not_true,cond_false]
  have F4:=F3.trans f4
  exact asked2 (hP.nil F4) (hR.nil F4) hv fun H' f'=>h H' (F4.trans f')
 cases hp:plK v o with
 | none =>
  refine kinfo_k hP hv (fun i hp'=>by rw [hp] at hp';cases hp') fun _ H1 f1=>?_
  exact go ⟨⟨#[]⟩,⟨#[]⟩,[],0⟩ 130 none 0 0 H1 f1 (Own.nil 1 H1).rd (by decide) fun {H2} F2 {Q'} hq=>info_r (hR.nil F2) hv (fun i hp'=>by rw [hp] at hp';cases hp') fun _ H3 f3=>hq none 0 0 H3 f3 (Own.nil 1 H3).rd
 | some i =>
  obtain ⟨hi,_⟩:=plK_some hp
  have hol:=infoK_len hv (t:=t) hi
  refine kinfo_k hP hv (fun i' hp' a l c G H1 ho f1 hG=>?_) fun hp'=>by rw [hp] at hp';cases hp'
  rw [hp] at hp';cases hp'
  have hl:l=(infoK v t i).own.length:=by have:=ho.len;simpa [strsV] using this.symm
  refine go (infoK v t i) 0 a l c H1 f1 ho.rd (by omega) fun {H2} F2 {Q'} hq=>info_r (hR.nil F2) hv (fun i' hp' a2 l2 c2 G2 H3 ho2 f3 hG2=>?_) fun hp'=>by rw [hp] at hp';cases hp'
  rw [hp] at hp';cases hp'
  exact hq a2 l2 c2 H3 f3 ho2.rd
end
section
variable {H:Heap}{bp br:Nat}{Fp Fq:Foot}{s:SP}{t:TB}{v:KV}{Q:QT}
theorem seen_c (hP:PK H bp Fp s t) (hR:RK H br Fq s t) (hv:KAll s t v) (h:∀ H',Fr [] H H'→Q (.bool true) H'):callS PP n_k15 #[.pointer (some ⟨bp,0,none⟩),.pointer (some ⟨br,0,none⟩)] Q H:=by
 have hm1:=hv.ks.shape.many1
 have hg:=hv.ks.shape.globs
 have hw1:=hv.names.wf.m1
 have hw2:=hv.names.wf.len
 apply k15_ok
 unfold k15 iV wW pV lV cS
 refine all_r hR hv.ks fun al ll cl Gl H1 hol f1 hGl=>⟨_,_,_,rfl,?_⟩
 have hll:ll=v.cls.length:=by have:=hol.len;simpa [intsV,oopsK] using this.symm
 refine count_k (hP.nil f1) hv fun H2 f2=>⟨_,rfl,trivial,?_⟩
 have F2:=f1.trans f2
 rw [bneI,cond_dec,if_neg (by omega)]
 refine globals_k (hP.nil F2) hv fun ag lg cg Gg H3 hog f3 hGg=>⟨_,_,_,rfl,trivial,?_⟩
 have F3:=F2.trans f3
 have hlg:lg=v.glob.length:=by have:=hog.len;simpa [strsV,globsK] using this.symm
 refine globals_r (hR.nil F3) hv fun ag2 lg2 cg2 Gg2 H4 hog2 f4 hGg2=>⟨_,_,_,rfl,trivial,?_⟩
 have F4:=F3.trans f4
 refine same_c (hog.fr f4 (by simp)).rd hog2.rd (by omega) ⟨_,rfl,trivial,?_⟩
 rw [decide_eq_true rfl]
 simp only [Bool.not_true,cond_false]
 obtain ⟨tb,Ft,hct,hT,_⟩:=(hR.nil F4).tb
 refine ⟨_,rfl,_,hct,ksymbols_k (hP.nil F4) fun tbp Ftp hctp hTp=>⟨_,rfl,⟨⟨hct,trivial⟩,trivial⟩,ptAll_c hTp fun aS ls cs Gs H5 hos f5 hGs=>⟨_,_,_,rfl,⟨⟨(cell_fr f5 (by simp) (cell_lt hct)).trans hct,trivial⟩,trivial⟩,?_⟩⟩⟩
 have F5:=F4.trans f5
 have hls:ls=t.texts.length:=by have:=hos.len;simpa [strsV] using this.symm
 refine tall_c (hT.fr f5 (Disj.nil_right _)) fun aS2 ls2 cs2 Gs2 H6 hos2 f6 hGs2=>⟨_,_,_,rfl,trivial,?_⟩
 have F6:=F5.trans f6
 refine same_c (hos.fr f6 (by simp)).rd hos2.rd (by omega) ⟨_,rfl,trivial,?_⟩
 rw [decide_eq_true rfl]
 simp only [Bool.not_true,cond_false]
 obtain ⟨sb,hb,Fh,hcs,hch,hRR,_⟩:=(hR.nil F6).hp
 refine ⟨_,rfl,_,hcs,_,rfl,_,hch,kspace_k (hP.nil F6) fun sbp Fsp hcsp hSp _ _ _=>⟨_,rfl,⟨⟨hch,trivial⟩,⟨hcs,trivial⟩,trivial⟩,psHeap_c hSp fun hbp Fhp hRp _ _=>⟨_,rfl,⟨⟨hch,trivial⟩,⟨hcs,trivial⟩,trivial⟩,hmarked_c hRp ⟨_,rfl,⟨⟨hch,trivial⟩,⟨hcs,trivial⟩,trivial⟩,rmarked_c hRR ⟨_,rfl,trivial,?_⟩⟩⟩⟩⟩
 rw [bneI,cond_dec,if_neg (fun hn=>hn rfl)]
 refine kspace_k (hP.nil F6) fun sbp Fsp hcsp hSp _ _ _=>⟨_,rfl,trivial,psKept_c hSp fun ak ck H7 _ f7=>⟨_,_,_,rfl,trivial,?_⟩⟩
 have F7:=F6.trans f7
 have hst:s.stack.length=0:=by rw [hv.stack];rfl
 rw [bneI,cond_dec,if_neg (by omega)]
 refine ⟨fun w H'=>∃ i:Nat,w=[.int .i64 i]∧i≤ll∧Fr [] H7 H',fun w _=>match w with
  | [.int _ i]=>(ll-i).toNat
  | _=>0,⟨0,rfl,Nat.zero_le _,Fr.refl _ _⟩,?_⟩
 rintro w H8 ⟨i,rfl,hi,f8⟩ _
 have F8:=F7.trans f8
 refine ⟨_,rfl,?_⟩
 rw [cond_dec]
 refine ite_i (fun hlt=>?_) fun hlt=>?_
 ·have hlt':i<v.cls.length:=by omega
  have e:IntKind.wrap .i64 ((i:Int)+1)=((i+1:Nat):Int):=by rw [wrap64_id (by omega) (by omega)];omega
  have f18:Fr [] H1 H8:=((((((f2.trans f3).trans f4).trans f5).trans f6).trans f7).trans f8)
  obtain ⟨p,rfl,hcell⟩:=rd_oops hol f18 hlt'
  refine ⟨⟨by omega,hlt⟩,_,rfl,_,by rw [Int.toNat_natCast];exact hcell,asked_c (hP.nil F8) (hR.nil F8) hv fun H9 f9=>⟨_,rfl,?_⟩⟩
  simp only [Bool.not_true,cond_false]
  rw [e]
  exact ⟨⟨i+1,rfl,by omega,f8.trans f9⟩,by simp;omega⟩
 ·refine kspace_k (hP.nil F8) fun sbp Fsp hcsp hSp _ _ _=>⟨_,rfl,psRoom_c hSp fun H9 f9=>⟨_,_,rfl,?_⟩⟩
  have F9:=F8.trans f9
  obtain ⟨sb2,Fs2,hc2,hS2,_⟩:=(hR.nil F9).sp
  refine ⟨_,rfl,_,hc2,rsRoom_c hS2 fun H10 f10=>⟨_,_,rfl,?_⟩⟩
  rw [beqI,cond_dec,if_pos rfl,beqI,decide_eq_true rfl]
  exact h _ (F9.trans f10)
end
section
variable {H:Heap}{Q:QT}
theorem none_c (h:∀ H',Fr [] H H'→Q (.bool true) H'):callS PP n_k13 #[] Q H:=by
 apply k13_ok
 unfold k13 A0 iV wW pV sV lV cS;dsimp only [shH]
 refine kfind_nil ⟨_,_,rfl,kdefine_nil ⟨_,_,rfl,kinfo_nil fun H3 f3=>⟨_,_,_,_,_,_,_,rfl,?_⟩⟩⟩
 have fp:=Fr.push [] H3 (.cells #[.string (⟨#[]⟩:ByteArray),.string (⟨#[]⟩:ByteArray),.slice none 0 0,.int .i64 0] 121)
 have hB:=Blk.new H3 #[.string (⟨#[]⟩:ByteArray),.string (⟨#[]⟩:ByteArray),.slice none 0 0,.int .i64 0] 121
 generalize (H3.push (.cells #[.string (⟨#[]⟩:ByteArray),.string (⟨#[]⟩:ByteArray),.slice none 0 0,.int .i64 0] 121))=G at fp hB ⊢
 obtain ⟨w0,w1,w2,w3,hB1,hf1⟩:=st4 hB (o:=0) (by simp) (.string ⟨#[]⟩) (.string ⟨#[]⟩) (.slice none 0 0) (.int .i64 0)
 have F1:=(Up.fresh (f3.trans fp) (F:=[H3.size]) (F':=[H3.size]) ⟨hf1,fun _ h=>.inl h⟩ (by have:=f3.1;simpa using this)).1
 refine ⟨w0,w1,w2,w3,value_nil ⟨_,_,rfl,over_nil ⟨_,_,rfl,kglobal_nil ⟨_,rfl,setValue_nil ⟨_,rfl,?_⟩⟩⟩⟩⟩
 rw [add_none,add_none,add_none]
 show ∃(I23:List Value→Heap→Prop) (μ23:List Value→Heap→Nat),I23 [.int .i64 0] ((setH (setH (setH (setH G ⟨H3.size,0,none⟩ (.string ⟨#[]⟩)) ⟨H3.size,0+1,none⟩ (.string ⟨#[]⟩)) ⟨H3.size,0+2,none⟩ (.slice none 0 0)) ⟨H3.size,0+3,none⟩ (.int .i64 0)).push (.cells (intsV [2,2,2,2,2,2,2]).toArray 23))∧_
 generalize (setH (setH (setH (setH G ⟨H3.size,0,none⟩ (.string ⟨#[]⟩)) ⟨H3.size,0+1,none⟩ (.string ⟨#[]⟩)) ⟨H3.size,0+2,none⟩ (.slice none 0 0)) ⟨H3.size,0+3,none⟩ (.int .i64 0))=G1 at hB1 hf1 F1 ⊢
 have fq:=Fr.push [] G1 (.cells (intsV [2,2,2,2,2,2,2]).toArray 23)
 have hr:Rd 1 (G1.push (.cells (intsV [2,2,2,2,2,2,2]).toArray 23)) (some ⟨G1.size,0,none⟩) 7 (intsV [2,2,2,2,2,2,2]):=rd_new (cs:=[2,2,2,2,2,2,2])
 have hB2:=hB1.fr fq (by simp)
 generalize (G1.push (.cells (intsV [2,2,2,2,2,2,2]).toArray 23))=G2 at fq hr hB2 ⊢
 have F2:=F1.trans fq
 refine ⟨fun w H'=>H'=G2∧∃ i:Nat,w=[.int .i64 i]∧i≤7,fun w _=>match w with
  | [.int _ i]=>(7-i).toNat
  | _=>0,⟨rfl,0,rfl,by decide⟩,?_⟩
 rintro w H8 ⟨rfl,i,rfl,hi⟩ _
 refine ⟨_,rfl,?_⟩
 rw [cond_dec]
 refine ite_i (fun hlt=>?_) fun hlt=>?_
 ·obtain ⟨p,hp,hcell,hlt3⟩:=hr.int (i:=(i:Int)) (by omega) (by omega)
  cases hp
  rw [Int.toNat_natCast] at hcell hlt3
  have hx:([2,2,2,2,2,2,2]:List Int).getD i 0=2:=by
   rcases i with _ | _ | _ | _ | _ | _ | _ | i
   all_goals first | rfl | omega
  rw [hx] at hcell
  have e:IntKind.wrap .i64 ((i:Int)+1)=((i+1:Nat):Int):=by rw [wrap64_id (by omega) (by omega)];omega
  refine ⟨⟨by omega,hlt⟩,_,rfl,_,by rw [Int.toNat_natCast,Nat.mul_one];exact hcell,num1_c ⟨_,rfl,?_⟩⟩
  rw [bneI,cond_dec,if_neg (fun hn=>hn rfl),e]
  exact ⟨⟨rfl,i+1,rfl,by omega⟩,by simp;omega⟩
 ·rw [beqI,cond_dec,if_pos rfl,cond_dec,if_pos rfl]
  refine ⟨_,hB2.cell 0,?_⟩
  rw [strEq_dec,cond_dec,if_pos rfl,cond_dec,if_pos rfl]
  simp only [Option.isNone_none,cond_true]
  refine count_nil ⟨_,rfl,?_⟩
  rw [beqI,cond_dec,if_pos rfl]
  refine globals_nil ⟨_,_,_,rfl,?_⟩
  rw [beqI,cond_dec,if_pos (by decide)]
  refine under_nil fun H9 f9=>⟨_,_,_,rfl,?_⟩
  rw [beqI,cond_dec,if_pos (by decide)]
  refine kspace_nil ⟨_,rfl,?_⟩
  simp only [Option.isNone_none,cond_true]
  exact ksymbols_nil ⟨_,rfl,h _ (F2.trans f9)⟩
end
attribute [local irreducible] bootRH bootH bootL
section
variable {H:Heap}{Q:QT}
theorem boot160:((bootR0 160 20).allocAll bootPlan).1=0:=by kernel_rfl
theorem sound_c (hk:Kinds H){Q:QT} (h:∀ b F H',PK H' b F (bootS 160 20) bootT→Fr [] H H'→(∀ x∈F,H.size≤x)→Q (.tuple #[.pointer (some ⟨b,0,none⟩),.int .i64 0]) H'):callS PP n_k10 #[.int .i64 160,.int .i64 20] Q H :=
 kboot_k hk (fun hb=>absurd ⟨by decide,by decide,by decide,by decide⟩ hb) (fun _ he=>absurd boot160 he) fun _ _=>h
theorem classBoots_c {words oops:Int} (hk:Kinds H) (hN:NamesAt H) (h:∀ H',Fr [] H H'→Q (.bool true) H'):callS PP n_k3 #[.int .i64 words,.int .i64 oops] Q H:=by
 apply k3_ok
 unfold k3 iV pV cS
 have nok:∀ (H3:Heap),Fr [] H H3→callS PP n_k10 #[.int .i64 160,.int .i64 20] (fun v11 H4=>∃ p12:Option Addr,∃ n13:Int,v11=.tuple #[.pointer p12,.int .i64 n13]∧cond (!(Option.isNone p12)) (callS PP n_k12 #[.int .i64 n13] (fun v14 H5=>∃ n15:Int,v14=.int .i64 n15∧cond (n15 == 0) (callS PP n_k13 #[] (fun v16 H6=>∃ b17:Bool,v16=.bool b17∧Q (.bool b17) H6) H5) (Q (.bool false) H5)) H4) (Q (.bool false) H4)) H3:=by
  intro H3 F3
  refine sound_c (hk.fr F3 (by simp)) fun b F H4 _ f4 _=>⟨_,_,rfl,?_⟩
  simp only [Option.isNone_some,Bool.not_false,cond_true]
  refine num1_c ⟨_,rfl,?_⟩
  rw [beqI,cond_dec,if_pos rfl]
  exact none_c fun H5 f5=>⟨_,rfl,h _ ((F3.trans f4).trans f5)⟩
 have bad:∀ (e:Int) (H2:Heap),Fr [] H H2→(∀ {Q':Value→Heap→Prop} (_:∀ H3,Fr [] H2 H3→Q' (.tuple #[.pointer none,.int .i64 e]) H3),callS PP n_k11 #[.int .i64 words,.int .i64 oops] Q' H2) →
   callS PP 11 #[.int .i64 words,.int .i64 oops] (fun v6 H2=>∃ p7:Option Addr,∃ n8:Int,v6=.tuple #[.pointer p7,.int .i64 n8]∧callS PP 12 #[.int .i64 e] (fun v9 H3=>∃ words0:Int,v9=.int .i64 words0∧cond (words0 != n8) (Q (.bool false) H3) (cond (!((Option.isNone (none:Option Addr)) == (Option.isNone p7))) (Q (.bool false) H3) (cond (Option.isNone (none:Option Addr)) (callS PP 10 #[.int .i64 160,.int .i64 20] (fun v11 H4=>∃ p12:Option Addr,∃ words3:Int,v11=.tuple #[.pointer p12,.int .i64 words3]∧cond (!(Option.isNone p12)) (callS PP 12 #[.int .i64 words3] (fun v14 H5=>∃ words5:Int,v14=.int .i64 words5∧cond (words5 == 0) (callS PP 13 #[] (fun v16 H6=>∃ b17:Bool,v16=.bool b17∧Q (.bool b17) H6) H5) (Q (.bool false) H5)) H4) (Q (.bool false) H4)) H3) (callS PP 14 #[.pointer (none:Option Addr),.int .i64 14] (fun v18 H7=>∃ words9:Int,∃ oops0:Int,v18=.tuple #[.int .i64 words9,.int .i64 oops0]∧callS PP 15 #[.pointer (none:Option Addr),.pointer p7] (fun v21 H8=>∃ b22:Bool,v21=.bool b22∧cond b22 (cond (words9 == 17) (callS PP 12 #[.int .i64 oops0] (fun v23 H9=>∃ oops4:Int,v23=.int .i64 oops4∧cond (oops4 == 0) (callS PP 13 #[] (fun v25 H20=>∃ b26:Bool,v25=.bool b26∧Q (.bool b26) H20) H9) (Q (.bool false) H9)) H8) (Q (.bool false) H8)) (Q (.bool false) H8)) H7) H3)))) H2) H2:=by
  intro e H2 F2 hR
  refine hR fun H3 f3=>⟨_,_,rfl,num1_c ⟨_,rfl,?_⟩⟩
  rw [bneI,cond_dec,if_neg (fun hn=>hn rfl)]
  simp only [Option.isNone_none,beq_self_eq_true,Bool.not_true,cond_false,cond_true]
  exact nok H3 (F2.trans f3)
 refine kboot_k hk (fun hb=>?_) (fun hg he H1 f1=>?_) fun hg hz b F H1 hP f1 hF=>?_
 ·refine ⟨_,_,rfl,bad 1 H (Fr.refl _ _) fun {Q'} hq=>boot_r hN (fun _=>hq H (Fr.refl _ _)) (fun hg=>absurd hg hb) fun hg=>absurd hg hb⟩
 ·refine ⟨_,_,rfl,bad _ H1 f1 fun {Q'} hq=>boot_r (hN.fr f1 (by simp)) (fun hb=>absurd hg hb) (fun _ _ H3 f3=>hq H3 f3) fun _ hz=>absurd hz he⟩
 ·refine ⟨_,_,rfl,boot_r (hN.fr f1 (by simp)) (fun hb=>absurd hg hb) (fun _ he=>absurd hz he) fun _ _ b2 F2 H2 hR f2 hF2=>⟨_,_,rfl,num1_c ⟨_,rfl,?_⟩⟩⟩
  rw [bneI,cond_dec,if_neg (fun hn=>hn rfl)]
  simp only [Option.isNone_some,beq_self_eq_true,Bool.not_true,cond_false]
  have hv:=boot_ok hg.1 hg.2.1 hg.2.2.1 hg.2.2.2 hz
  have F12:=f1.trans f2
  refine numbered_k (hP.nil f2) hv fun H3 f3=>⟨_,_,rfl,?_⟩
  have e14:numberedK bootV 14=(17,0):=by kernel_rfl
  rw [e14]
  refine seen_c ((hP.nil f2).nil f3) (hR.nil f3) hv fun H4 f4=>⟨_,rfl,?_⟩
  simp only [cond_true]
  rw [beqI,cond_dec,if_pos rfl]
  refine num1_c ⟨_,rfl,?_⟩
  rw [beqI,cond_dec,if_pos rfl]
  exact none_c fun H5 f5=>⟨_,rfl,h _ (((F12.trans f3).trans f4).trans f5)⟩
end
end Go.Proofs.YtmkdkplipbocjaaGreatDoor
namespace Kw
open Go
theorem keptBut_of {W W':World}{may:MemPlace→Prop} (hf:Fr [] W.heap W'.heap) (ho:W'.os=W.os) (hout:W'.output=W.output):W.keptBut W' may:=by
 refine ⟨ho,hout,fun i hi=>?_⟩
 rw [hf.2 i hi (by simp)]
 cases h:W.heap[i]? with
 | none=>trivial
 | some o=>cases o <;> first | exact ⟨rfl,rfl,rfl,fun _ _=>rfl⟩ | exact .inr ⟨rfl,rfl⟩ | rfl
theorem post_law {H:Type}{enc:TypeId × Value→H}{P:Program}{f:Func}{s:ChangeSpec}{apart fresh handsOn:Bool}{W W':World}{args:Array Value}{v:Value}{ds gs:List (DataW H)}{before pa pv:List MemPlace}
  (hW:DataW.Whole enc P f.params.toList s.vars apart W args.toList ds gs before)
  (hres:∀ (b:Nat) (sp:Nat→Bool) (hd:Bool),DataW.TrodAll enc P W' b sp hd f.resultTypes.toList (v.resultList f.resultTypes.size) (s.fn H (ds++gs)).results [])
  (hargs:∀ sp:Nat→Bool,(∀ p∈before,sp p.block=true)→DataW.TrodAll enc P W' 0 sp true f.params.toList args.toList (s.fn H (ds++gs)).args pa)
  (hvars:∀ sp:Nat→Bool,(∀ p∈before,sp p.block=true)→DataW.TrodVars enc P W' sp s.vars (s.fn H (ds++gs)).vars pv)
  (hf:Fr [] W.heap W'.heap) (ho:W'.os=W.os) (hout:W'.output=W.output):s.post enc P f apart fresh handsOn false W args v W' :=
 ⟨ds,gs,before,[],pa,pv,hW,hres _ _ _,hargs _ (fun p hp=>by simpa using hW.lt p hp),hvars _ (fun p hp=>by simpa using hW.lt p hp),keptBut_of hf ho hout,fun h=>by cases h⟩
end Kw
namespace Go.Proofs.YtmkdkplipbocjaaGreatDoor
open Kw
theorem ownK:ownKnob Tryz.prog.godebug=none:=by kernel_rfl
theorem gNames : Tryz.prog.globalNamed "kiln/kilnref13.Names" = some g_kilnref13_Names := by kernel_rfl
theorem gKinds : Tryz.prog.globalNamed "kiln/word.kinds" = some g_word_kinds := by kernel_rfl
theorem gNamesT:(Tryz.prog.globals[g_kilnref13_Names]?).map (·.type)=some 115:=by kernel_rfl
theorem gKindsT:(Tryz.prog.globals[g_word_kinds]?).map (·.type)=some 284:=by kernel_rfl
theorem uNames:Tryz.prog.underlying 115=some (.array 14 9):=by kernel_rfl
theorem uKinds:Tryz.prog.underlying 284=some (.array 4 3):=by kernel_rfl
theorem uInt:Tryz.prog.underlying 3=some (.int .i64):=by kernel_rfl
theorem uStr:Tryz.prog.underlying 9=some .string:=by kernel_rfl
theorem cInt:Tryz.prog.cellsOf 3=1:=by kernel_rfl
theorem cStr:Tryz.prog.cellsOf 9=1:=by kernel_rfl
theorem cell_var {W:World}{n:String}{g:Nat}{cs:Array Value}{i:Nat}{v:Value} (hg:PP.globalNamed n=some g) (hv:W.var? PP n=some cs) (h:cs[i]?=some v):cellH W.heap ⟨g,i,none⟩=some v:=by
 have:=World.var?_cell hg hv i
 rw [h] at this
 exact this
open Go.Lib in
theorem names_of_laid {W:World} (h:laidMet PP Rows.classBootsRow.laid W):NamesAt W.heap:=by
 obtain ⟨g, t, cs, fuel, p, hg, ht, hv, hd⟩ := laidMet.reads h (n := "kiln/kilnref13.Names") (d := Rows.laid_kiln_kilnref13_Names) (by simp [Rows.classBootsRow])
 obtain rfl:=Option.some.inj (gNames.symm.trans hg)
 obtain rfl:=Option.some.inj (gNamesT.symm.trans ht)
 intro i hi
 have h14:i<14:=hi
 obtain ⟨fuel',d,q,he,hd'⟩:=array_elem uNames hd i h14
 rw [cStr,Nat.mul_one] at hd'
 obtain ⟨s,hcs,hx,_⟩:=DataW.trod_string uStr hd'
 obtain ⟨hdx,_⟩:=Prod.mk.inj hx
 have hc:cs.toList[i]?=some (.string s):=by
  have:=congrArg (·[0]?) hcs
  simpa [List.getElem?_take,List.getElem?_drop] using this
 have hs:s=kNames[i]:=by
  have e:some d=some (.lit (.string (kNames[i]).data.toList):DataW Unit):=by
   rw [←he]
   rcases i with _ | _ | _ | _ | _ | _ | _ | _ | _ | _ | _ | _ | _ | _ | i
   all_goals first | rfl | omega
  rw [hdx] at e
  have e2:s.data.toList=(kNames[i]).data.toList:=by simpa using e
  cases s with
  | mk sd =>
   have e3:sd=(kNames[i]).data:=Array.ext' e2
   rw [e3]
 have hf:=cell_var gNames hv (i:=i) (v:=.string s) (by rw [←hc];simp)
 rw [hs] at hf
 exact hf
open Go.Lib in
theorem kinds_of_laid {W:World} (h:laidMet PP Rows.classBootsRow.laid W):Kinds W.heap:=by
 obtain ⟨g, t, cs, fuel, p, hg, ht, hv, hd⟩ := laidMet.reads h (n := "kiln/word.kinds") (d := Rows.laid_kiln_word_kinds) (by simp [Rows.classBootsRow])
 obtain rfl:=Option.some.inj (gKinds.symm.trans hg)
 obtain rfl:=Option.some.inj (gKindsT.symm.trans ht)
 have one:∀ i (k:Int),i<4→([3,1,2,1]:List Int)[i]?=some k→cellH W.heap ⟨g_word_kinds,i,none⟩=some (.int .i64 k):=by
  intro i k hi hk
  obtain ⟨fuel',d,q,he,hd'⟩:=array_elem uKinds hd i hi
  rw [cInt,Nat.mul_one] at hd'
  obtain ⟨n,hcs,hx,_⟩:=DataW.trod_int uInt hd'
  obtain ⟨hdx,_⟩:=Prod.mk.inj hx
  have hc:cs.toList[i]?=some (.int .i64 n):=by
   have:=congrArg (·[0]?) hcs
   simpa [List.getElem?_take,List.getElem?_drop] using this
  have hs:n=k:=by
   have e:some d=some (.lit (.int .i64 k):DataW Unit):=by
    rw [←he]
    rcases i with _ | _ | _ | _ | i
    all_goals first | omega | (cases hk;rfl)
   rw [hdx] at e
   simpa using e
  have hf:=cell_var gKinds hv (i:=i) (v:=.int .i64 n) (by rw [←hc];simp)
  rw [hs] at hf
  exact hf
 exact ⟨one 0 3 (by decide) rfl,one 1 1 (by decide) rfl,one 2 2 (by decide) rfl,one 3 1 (by decide) rfl⟩
end Go.Proofs.YtmkdkplipbocjaaGreatDoor
namespace Go.Proofs.YtmkdkplipbocjaaGreatDoor
open Kw
section
variable {H:Heap}{Q:QT}
def markB:ByteArray:=⟨#[109,97,114,107]⟩
theorem cap16 {n c:Nat} (hn:n≤10000000001000) (hc:c<n):Builtin.nextslicecap n c*16≤281474976710656:=by
 have:=nextslicecap_le2 hc
 omega
theorem lmarked_c {a:Option Addr}{l c:Nat}{xs:List ByteArray} (hr:Rd 1 H a l (strsV xs)) (hlk:l≤10000000000000)
  (h:∀ a' l' c' G H',Own 1 H' a' l' c' (strsV (xs++List.replicate 8 markB)) G→Fr [] H H'→(∀ x∈G,H.size≤x)→Q (.slice a' l' c') H'):callS PP n_k102 #[.slice a l c] Q H:=by
 have hs1:sliceInfo PP 37=some (1,16,some (.string (⟨#[]⟩:ByteArray))):=by kernel_rfl
 have hl:l=xs.length:=by have:=hr.1;simpa [strsV] using this.symm
 apply k102_ok
 unfold k102 A0 iV wW sV lV
 refine ⟨fun w H'=>∃(i:Nat) (a':Option Addr) (l' c':Nat) (G:Foot),w=[.slice a' l' c',.int .i64 i]∧i≤l∧Own 1 H' a' l' c' (strsV (xs.take i)) G∧Fr [] H H'∧(∀ x∈G,H.size≤x),fun w _=>match w with
  | [_,.int _ i]=>(l-i).toNat
  | _=>0,⟨0,none,0,0,[],rfl,Nat.zero_le _,by simpa [strsV] using Own.nil 1 H,Fr.refl _ _,by simp⟩,?_⟩
 rintro w H1 ⟨i,a1,l1,c1,G,rfl,hi,ho,hf1,hG⟩ _
 have hl1:l1=i:=by have:=ho.len;simp only [strsV,List.length_map,List.length_take] at this;omega
 refine ⟨_,_,_,_,rfl,?_⟩
 rw [cond_dec]
 refine ite_i (fun hlt=>?_) fun hlt=>?_
 ·obtain ⟨p,hlt2,rfl,hcell⟩:=(hr.fr' hf1 (by simp)).str (i:=(i:Int)) (by omega) hlt
  simp only [Int.toNat_natCast] at hcell hlt2
  have htk:xs.take (i+1)=xs.take i++[xs[i]]:=by rw [List.take_add_one,List.getElem?_eq_getElem hlt2];rfl
  have e:IntKind.wrap .i64 ((i:Int)+1)=((i+1:Nat):Int):=by rw [wrap64_id (by omega) (by omega)];omega
  refine ⟨⟨by omega,hlt⟩,_,rfl,_,by rw [Int.toNat_natCast,Nat.mul_one];exact hcell,?_⟩
  refine evS_append1_of hs1 rfl (by kernel_rfl) ho rfl (by simp [oneC]) (fun c hc=>cap16 (by omega) hc) (by decide) fun a' c' G2 H3 g1 g2 g3=>⟨_,_,_,rfl,?_⟩
  have hfr:=Up.fresh hf1 g2 hG
  rw [e]
  refine ⟨⟨i+1,a',l1+1,c',G2,rfl,by omega,?_,hfr.1,hfr.2⟩,by simp;omega⟩
  rw [htk,strsV_append];exact g1
 ·have hil:i=l:=by omega
  rw [List.take_of_length_le (by omega)] at ho
  refine ⟨fun w H'=>∃(k:Nat) (a':Option Addr) (l' c':Nat) (G:Foot),w=[.slice a' l' c',.int .i64 k]∧k≤8∧Own 1 H' a' l' c' (strsV (xs++List.replicate k markB)) G∧Fr [] H H'∧(∀ x∈G,H.size≤x),fun w _=>match w with
   | [_,.int _ i]=>(8-i).toNat
   | _=>0,⟨0,a1,l1,c1,G,rfl,by omega,by simpa using ho,hf1,hG⟩,?_⟩
  rintro w H3 ⟨k,a3,l3,c3,G3,rfl,hk,ho3,hf3,hG3⟩ _
  have hl3:l3=l+k:=by have:=ho3.len;simp only [strsV,List.length_map,List.length_append,List.length_replicate] at this;omega
  refine ⟨_,_,_,_,rfl,?_⟩
  rw [cond_dec]
  refine ite_i (fun hlt=>?_) fun hlt=>?_
  ·have e:IntKind.wrap .i64 ((k:Int)+1)=((k+1:Nat):Int):=by rw [wrap64_id (by omega) (by omega)];omega
   refine evS_append1_of hs1 rfl (by kernel_rfl) ho3 rfl (by simp [oneC]) (fun c hc=>cap16 (by omega) hc) (by decide) fun a' c' G2 H4 g1 g2 g3=>⟨_,_,_,rfl,?_⟩
   have hfr:=Up.fresh hf3 g2 hG3
   rw [e]
   refine ⟨⟨k+1,a',l3+1,c',G2,rfl,by omega,?_,hfr.1,hfr.2⟩,by simp;omega⟩
   rw [List.replicate_succ',←List.append_assoc,strsV_append];exact g1
  ·have hk8:k=8:=by omega
   subst hk8
   exact h _ _ _ _ H3 ho3 hf3 hG3
theorem over_c {a:Option Addr}{l c:Nat}{xs:List Value}{G:Foot} (ho:Own 1 H a l c xs G) (hlk:l≤100000000000000) (h:∀ H',Fr G H H'→Q (.tuple #[]) H'):callS PP n_k104 #[.slice a l c] Q H:=by
 apply k104_ok
 unfold k104 iV wW sV;dsimp only [shH]
 have hlc:=ho.2.1
 refine ⟨fun w H'=>∃ i:Nat,w=[.int .i64 i]∧i≤l∧Fr G H H'∧∀ b,a=some ⟨b,0,none⟩→∃ cs,Blk H' b cs∧cs.size=c,fun w _=>match w with
  | [.int _ i]=>(l-i).toNat
  | _=>0,⟨0,rfl,Nat.zero_le _,Fr.refl _ _,fun b hb=>?_⟩,?_⟩
 ·rcases ho.2.2 with ⟨h1,_⟩ | ⟨b',cs,h1,_,h3,h4,_⟩
  ·rw [h1] at hb;cases hb
  ·rw [h1] at hb;cases hb
   exact ⟨cs,h3,by omega⟩
 rintro w H1 ⟨i,rfl,hi,hf,hB⟩ _
 refine ⟨_,rfl,?_⟩
 rw [cond_dec]
 refine ite_i (fun hlt=>?_) fun hlt=>h H1 hf
 have e:IntKind.wrap .i64 ((i:Int)+1)=((i+1:Nat):Int):=by rw [wrap64_id (by omega) (by omega)];omega
 rcases ho.2.2 with ⟨_,h2,_⟩ | ⟨b,cs,h1,h2,_⟩
 ·omega
 obtain ⟨cs',hb,hsz⟩:=hB b h1
 subst h1
 refine ⟨⟨by omega,hlt⟩,_,rfl,?_⟩
 rw [add_none,Int.toNat_natCast,Nat.mul_one,Nat.zero_add,e]
 refine ⟨hb.wr (by omega),⟨i+1,rfl,by omega,hf.trans (Fr.set (by rw [h2];simp)),fun b' hb'=>?_⟩,by simp;omega⟩
 cases hb'
 exact ⟨_,hb.set i _,by simpa using hsz⟩
end
theorem kDefineAll_all {s:SP}{v:KV}{t:TB} (hv:KAll s t v) (name sup:ByteArray) (own:List ByteArray):∃ v',KAll (kDefineAll s v t name sup own).2.1 (kDefineAll s v t name sup own).2.2 v':=by
 unfold kDefineAll
 by_cases h:(defK v t name sup own).2=0
 ·rw [if_neg (by simpa using h)]
  obtain ⟨j,hj,ej,hlt,hno,_,_⟩:=defK_ok hv h
  rw [ej]
  have A:=kDefine_ok hv hj hlt (name:=name) (own:=own) hno
  by_cases he:(kDefine s t v.clsW name (v.cls[j]).oop own).1.2=0
  ·obtain ⟨n,ns,l,d,h1,_⟩:=A.2 he
   exact ⟨_,h1⟩
  ·exact ⟨v,(A.1 he).2.1⟩
 ·rw [if_pos h];exact ⟨v,hv⟩
theorem kGlobalAll_all {s:SP}{v:KV}{t:TB} (hv:KAll s t v) (name:ByteArray):∃ v',KAll (kGlobalAll s v t name).2.1 (kGlobalAll s v t name).2.2 v':=by
 unfold kGlobalAll
 by_cases h:globK v t name=0
 ·rw [if_neg (by simpa using h)]
  have hlt:v.glob.length<256:=by
   unfold globK at h
   split at h
   ·cases h
   split at h
   ·cases h
   split at h
   ·cases h
   ·omega
  have A:=kGlobal_ok hv hlt (name:=name)
  by_cases he:(kGlobal s t (globW v.glob) name).1=0
  ·obtain ⟨n,d,h1,_⟩:=A.2 he
   exact ⟨_,h1⟩
  ·exact ⟨v,(A.1 he).1⟩
 ·rw [if_pos h];exact ⟨v,hv⟩
theorem setValueK_all {s:SP}{v:KV}{t:TB} (hv:KAll s t v) (n w:Int):∃ v',KAll (setValueK s v n w).2 t v':=by
 unfold setValueK
 split
 ·exact ⟨v,hv⟩
 split
 ·exact ⟨v,hv⟩
 ·rename_i h1 h2
  have:=(hv.setG (i:=n.toNat) (by omega) (w:=w) (Classical.byContradiction h2)).2
  have e:((n.toNat:Nat):Int)=n:=by omega
  rw [e] at this
  exact ⟨_,this⟩
structure Tw (H:Heap) (bp br:Nat) (Fp Fq:Foot) (s:SP) (t:TB) (v:KV):Prop where
 p:PK H bp Fp s t
 r:RK H br Fq s t
 dis:Disj Fp Fq
 gk:g_word_kinds∉Fq
 v:KAll s t v
section
variable {H:Heap}{bp br:Nat}{Fp Fq:Foot}{s:SP}{t:TB}{v:KV}{Q:QT}
theorem Tw.fr (h:Tw H bp br Fp Fq s t v){H':Heap}{G:Foot} (hf:Fr G H H') (h1:Disj Fp G) (h2:Disj Fq G) (h3:g_word_kinds∉G):Tw H' bp br Fp Fq s t v :=
 ⟨h.p.fr hf h1 h3,h.r.fr hf h2,h.dis,h.gk,h.v⟩
theorem Tw.nil (h:Tw H bp br Fp Fq s t v){H':Heap} (hf:Fr [] H H'):Tw H' bp br Fp Fq s t v:=h.fr hf (Disj.nil_right _) (Disj.nil_right _) (by simp)
theorem Tw.glt (h:Tw H bp br Fp Fq s t v):g_word_kinds<H.size:=cell_lt h.p.kinds.1
theorem Tw.r1 (h:Tw H bp br Fp Fq s t v){H1:Heap}{Fp':Foot} (hu:Up Fp H Fp' H1):RK H1 br Fq s t:=h.r.fr hu.1 h.dis.symm
theorem Tw.both (h:Tw H bp br Fp Fq s t v){H1 H2:Heap}{Fp' Fq':Foot}{s':SP}{t':TB}{v':KV} (hP:PK H1 bp Fp' s' t') (hu:Up Fp H Fp' H1) (hR:RK H2 br Fq' s' t') (hu2:Up Fq H1 Fq' H2) (hv:KAll s' t' v') :
  Tw H2 bp br Fp' Fq' s' t' v'∧Up (Fp++Fq) H (Fp'++Fq') H2:=by
 have hd1:Disj Fp' Fq:=fun x hx hm=>by
  rcases hu.2 x hx with h1 | h1
  ·exact h.dis x h1 hm
  ·have:=h.r.lt x hm;omega
 have hd2:Disj Fp' Fq':=fun x hx hm=>by
  rcases hu2.2 x hm with h1 | h1
  ·exact hd1 x hx h1
  ·have:=hP.lt x hx;omega
 have hs:=hu.1.1
 refine ⟨⟨hP.fr hu2.1 hd1 h.gk,hR,hd2,fun hm=>?_,hv⟩,⟨(hu.1.mono fun x hx=>by simp [hx]).trans (hu2.1.mono fun x hx=>by simp [hx]),fun x hx=>?_⟩⟩
 ·rcases hu2.2 _ hm with h1 | h1
  ·exact h.gk h1
  ·have:=h.glt;omega
 ·rcases List.mem_append.1 hx with hx | hx
  ·exact (hu.2 x hx).imp (fun h=>by simp [h]) id
  ·rcases hu2.2 x hx with h1 | h1
   ·exact .inl (by simp [h1])
   ·exact .inr (by omega)
theorem blkA {b:Nat}{cs:Array Value} (h:Blk H b cs) (j:Nat){v:Value} (hv:cs[j]?=some v):cellH H ((⟨b,0,none⟩:Addr).add j)=some v:=by
 rw [add_none,Nat.zero_add,h.cell j];exact hv
theorem Outs.more {H H':Heap}{a:Option Addr}{l:Nat}{F:Foot} (h:Outs H a l F) (hs:H.size≤H'.size):Outs H' a l F:=h.imp id fun h p hp=>⟨Nat.lt_of_lt_of_le (h p hp).1 hs,(h p hp).2⟩
theorem rd_prefix {a:Option Addr}{l l':Nat}{xs ys:List Value} (h:Rd 1 H a l' (xs++ys)) (hl:l=xs.length):Rd 1 H a l xs:=by
 have h1:=h.1
 simp only [List.length_append] at h1
 refine ⟨by omega,fun ha=>by have:=h.2.1 ha;omega,fun p hp i hi=>?_⟩
 rw [h.2.2 p hp i (by omega),List.getElem?_append_left (by omega)]
theorem outs_rd {a:Option Addr}{l:Nat}{F:Foot}{ys:List Value} (ho:Outs H a l F){H':Heap} (hf:Fr F H H') (hk:Rd 1 H a l ys):Rd 1 H' a l ys:=ho.rd (F':=F) ⟨hf,fun _ h=>.inl h⟩ hk
end
theorem condI {a b:Int}{A B:Prop} (h1:a=b→A) (h2:a≠b→B):cond (a == b) A B:=by
 rw [beqI,cond_dec]
 exact ite_i h1 h2
section
variable {H:Heap}{bp br:Nat}{Fp Fq:Foot}{s:SP}{t:TB}{v:KV}{Q:QT}
theorem pair_end {x e:Int} (h:Q (.bool true) H):cond (x == x) (callS PP n_k12 #[.int .i64 e] (fun v59 H16=>∃ n60:Int,v59=.int .i64 n60∧Q (.bool (n60 == e)) H16) H) (Q (.bool false) H):=by
 refine condI (fun _=>num1_c ⟨_,rfl,?_⟩) fun hn=>absurd rfl hn
 rw [beqI,decide_eq_true rfl];exact h
theorem plays_c (hT:Tw H bp br Fp Fq s t v){kind i word:Int}{name other:ByteArray}{names:List ByteArray}{a:Option Addr}{l c:Nat} (hr:Rd 1 H a l (strsV names)) (ho1:Outs H a l Fp) (ho2:Outs H a l Fq) (hlk:l≤10000000000000)
  (h:∀ H' Fp' Fq' s' t' v',Tw H' bp br Fp' Fq' s' t' v'→Up (Fp++Fq) H (Fp'++Fq') H'→Q (.bool true) H') :
  callS PP n_k24 #[.pointer (some ⟨bp,0,none⟩),.pointer (some ⟨br,0,none⟩),.agg #[.int .i64 kind,.int .i64 i,.int .i64 word,.string name,.string other,.slice a l c]] Q H:=by
 apply k24_ok
 unfold k24 A0 iV pV sV lV cS;dsimp only [shH]
 have fp:Fr [] H (H.push (.cells #[.int .i64 kind,.int .i64 i,.int .i64 word,.string name,.string other,.slice a l c] 39)):=Fr.push _ _ _
 have hB:=Blk.new H #[.int .i64 kind,.int .i64 i,.int .i64 word,.string name,.string other,.slice a l c] 39
 have hT0:=hT.nil fp
 have hlp:=hT.p.lt
 have hlq:=hT.r.lt
 generalize (H.push (.cells #[.int .i64 kind,.int .i64 i,.int .i64 word,.string name,.string other,.slice a l c] 39))=H0 at fp hB hT0 ⊢
 have hnp:H.size∉Fp:=fun hm=>Nat.lt_irrefl _ (hlp _ hm)
 have hnq:H.size∉Fq:=fun hm=>Nat.lt_irrefl _ (hlq _ hm)
 have hr0:Rd 1 H0 a l (strsV names):=hr.fr' fp (by simp)
 have ho10:=ho1.more fp.1
 have ho20:=ho2.more fp.1
 have fin:∀ {H' Fp' Fq' s' t' v'},Tw H' bp br Fp' Fq' s' t' v'→Up (Fp++Fq) H0 (Fp'++Fq') H'→Q (.bool true) H':=fun hT' hu=>h _ _ _ _ _ _ hT' ((Up.of_nil fp).trans hu)
 have finn:∀ {H'},Fr [] H0 H'→Q (.bool true) H':=fun hf=>fin (hT0.nil hf) (Up.of_nil hf)
 generalize H.size=sb0 at hB hnp hnq ⊢
 refine ⟨_,hB.cell 0,condI (fun _=>?_) fun _=>condI (fun _=>?_) fun _=>condI (fun _=>?_) fun _=>condI (fun _=>?_) fun _=>condI (fun _=>?_) fun _=>condI (fun _=>?_) fun _=>condI (fun _=>?_) fun _=>condI (fun _=>?_) fun _=>condI (fun _=>?_) fun _=>condI (fun _=>?_) fun _=>condI (fun _=>?_) fun _=>finn (Fr.refl _ _)⟩
 ·
  refine ⟨_,_,_,blkA hB 5 rfl,lmarked_c hr0 hlk fun af lf cf Gf H1 hof f1 hGf=>⟨_,_,_,rfl,?_⟩⟩
  have hlf:lf=l+8:=by have h1:=hof.len;have h2:=hr.1;simp only [strsV,List.length_map,List.length_append,List.length_replicate] at h1 h2;omega
  have hB1:=hB.fr f1 (by simp)
  have hT1:=hT0.nil f1
  have hlc:=hof.2.1
  have hsz:=hT0.p.lt
  have hszq:=hT0.r.lt
  have hfp:Disj Gf Fp:=fun x hx hm=>by have:=hGf x hx;have:=hsz x hm;omega
  have hfq:Disj Gf Fq:=fun x hx hm=>by have:=hGf x hx;have:=hszq x hm;omega
  refine ⟨_,blkA hB1 3 rfl,_,blkA hB1 4 rfl,_,_,_,blkA hB1 5 rfl,⟨by omega,by omega⟩,?_⟩
  have hrf:Rd 1 H1 af l (strsV names):=by
   have:=hof.rd
   rw [strsV_append] at this
   exact rd_prefix this (by have:=hr.1;omega)
  rw [Int.toNat_natCast]
  refine kdefine_k hT1.p hT.v hrf (.inr (Own.out hof hfp)) (by omega) (by omega) fun H2 Fp' hP hu1=>⟨_,_,rfl,trivial,?_⟩
  have hB2:=hB1.fr hu1.1 hnp
  have hof2:=hof.fr hu1.1 hfp
  have hr2:=outs_rd (ho10.more f1.1) hu1.1 (hr0.fr' f1 (by simp))
  refine ⟨_,blkA hB2 3 rfl,_,blkA hB2 4 rfl,_,_,_,blkA hB2 5 rfl,define0_r (hT1.r1 hu1) hT.v hr2 ((ho20.more f1.1).more hu1.1.1) (by omega) fun H3 Fq' hR3 hu3=>⟨_,_,rfl,?_⟩⟩
  have hB3:=hB2.fr hu3.1 hnq
  have hof3:=hof2.fr hu3.1 hfq
  have hr3:=((ho20.more f1.1).more hu1.1.1).rd hu3 hr2
  obtain ⟨v',hv'⟩:=kDefineAll_all hT.v name other names
  obtain ⟨hT3,hu⟩:=hT1.both hP hu1 hR3 hu3 hv'
  refine ⟨_,_,_,blkA hB3 5 rfl,lmarked_c hr3 hlk fun a4 l4 c4 G4 H4 ho4 f4 hG4=>⟨_,_,_,rfl,?_⟩⟩
  have hof4:=hof3.fr f4 (by simp)
  refine same_c hof4.rd ho4.rd (by omega) ⟨_,rfl,over_c hof4 (by omega) fun H5 f5=>⟨rfl,?_⟩⟩
  rw [decide_eq_true rfl]
  have hT4:=hT3.nil f4
  have hltf:=hof.lt
  have d1:Disj Fp' Gf:=fun x hx hm=>by
   rcases hu.2 x (by simp [hx]) with h1 | h1
   ·rcases List.mem_append.1 h1 with h1 | h1
    ·exact hfp x hm h1
    ·exact hfq x hm h1
   ·have:=hltf x hm;omega
  have d2:Disj Fq' Gf:=fun x hx hm=>by
   rcases hu.2 x (by simp [hx]) with h1 | h1
   ·rcases List.mem_append.1 h1 with h1 | h1
    ·exact hfp x hm h1
    ·exact hfq x hm h1
   ·have:=hltf x hm;omega
  have hT5:=hT4.fr f5 d1 d2 fun hm=>by have:=hGf _ hm;have:=hT0.glt;omega
  refine condI (fun _=>num1_c ⟨_,rfl,condI (fun _=>fin hT5 ?_) fun hn=>absurd rfl hn⟩) fun hn=>absurd rfl hn
  have u4:=(Up.of_nil (F:=Fp++Fq) f1).trans (hu.trans (Up.of_nil f4))
  exact Up.mid u4 f5 fun x hx=>hGf x hx
 ·
  refine ⟨_,blkA hB 3 rfl,_,blkA hB 3 rfl,kglobal_k hT0.p hT.v fun H1 Fp' hP hu1=>?_⟩
  have hB1:=hB.fr hu1.1 hnp
  refine ⟨_,rfl,⟨⟨blkA hB1 3 rfl,trivial⟩,trivial⟩,num1_c ⟨_,rfl,⟨⟨blkA hB1 3 rfl,trivial⟩,trivial⟩,global_r (hT0.r1 hu1) hT.v fun H2 Fq' hR2 hu2=>⟨_,rfl,trivial,?_⟩⟩⟩
  rw [beqI,decide_eq_true rfl]
  obtain ⟨v',hv'⟩:=kGlobalAll_all hT.v name
  obtain ⟨hT2,hu⟩:=hT0.both hP hu1 hR2 hu2 hv'
  exact fin hT2 hu
 ·
  refine ⟨_,blkA hB 1 rfl,_,blkA hB 2 rfl,_,blkA hB 1 rfl,_,blkA hB 2 rfl,setValue_k hT0.p hT.v fun H1 Fp' hP hu1=>?_⟩
  have hB1:=hB.fr hu1.1 hnp
  refine ⟨_,rfl,⟨⟨blkA hB1 2 rfl,trivial⟩,⟨⟨blkA hB1 1 rfl,trivial⟩,trivial⟩⟩,num1_c ⟨_,rfl,⟨⟨blkA hB1 2 rfl,trivial⟩,⟨⟨blkA hB1 1 rfl,trivial⟩,trivial⟩⟩,setValue_r (hT0.r1 hu1) hT.v fun H2 Fq' hR2 hu2=>⟨_,rfl,trivial,?_⟩⟩⟩
  rw [beqI,decide_eq_true rfl]
  obtain ⟨v',hv'⟩:=setValueK_all hT.v i word
  obtain ⟨hT2,hu⟩:=hT0.both hP hu1 hR2 hu2 hv'
  exact fin hT2 hu
 ·
  refine ⟨_,blkA hB 1 rfl,value_k hT0.p hT.v fun H1 f1=>⟨_,_,rfl,_,blkA (hB.fr f1 (by simp)) 1 rfl,value_r (hT0.r.nil f1) hT.v fun H2 f2=>⟨_,_,rfl,pair_end (finn (f1.trans f2))⟩⟩⟩
 ·
  obtain ⟨sb,hb,Fh,hcs,hch,_⟩:=hT0.r.hp
  obtain ⟨sb',F1,hcs',hS',hsub',_⟩:=hT0.r.sp
  have hsb:sb'=sb:=by rw [hcs] at hcs';simpa using hcs'.symm
  have hsq:sb∈Fq:=by
   obtain ⟨_,_,_,_,F3,F4,_,_,_,_,eF,_⟩:=hS'
   rw [←hsb]
   exact hsub' _ (by rw [eF];simp)
  have hbq:=hT0.r.bmem
  have nsp:sb∉Fp:=fun hm=>hT0.dis _ hm hsq
  have nbp:br∉Fp:=fun hm=>hT0.dis _ hm hbq
  refine ⟨_,blkA hB 1 rfl,_,rfl,_,hcs,_,rfl,_,hch,_,blkA hB 1 rfl,kspace_k hT0.p fun sbp Fsp hcsp hSp hsubp hup hup2=>⟨_,rfl,⟨⟨blkA hB 1 rfl,trivial⟩,⟨hch,trivial⟩,⟨hcs,trivial⟩,⟨blkA hB 1 rfl,trivial⟩,trivial⟩,psHeap_c hSp fun hbp Fhp hRp hsub3 hup3=>⟨_,rfl,⟨⟨blkA hB 1 rfl,trivial⟩,⟨hch,trivial⟩,⟨hcs,trivial⟩,⟨blkA hB 1 rfl,trivial⟩,trivial⟩,mark_c hRp fun H1 hR1 hf1=>?_⟩⟩⟩
  have fP:Fr Fp H0 H1:=(hf1.mono hsub3).mono hsubp
  have hu1:Up Fp H0 Fp H1:=⟨fP,fun _ h=>.inl h⟩
  have hB1:=hB.fr fP hnp
  have c1:cellH H1 ⟨br,0,none⟩=some (.pointer (some ⟨sb,0,none⟩)):=by rw [cell_fr fP nbp (hT0.r.lt _ hbq)];exact hcs
  have c2:cellH H1 ⟨sb,0,none⟩=some (.pointer (some ⟨hb,0,none⟩)):=by rw [cell_fr fP nsp (hT0.r.lt _ hsq)];exact hch
  have hP1:=hup2 H1 _ (hup3 H1 _ hR1 hf1) (hf1.mono hsub3)
  obtain ⟨sb1,hb1,Fh1,hcs1,hch1,hRR1,_,_,huph1⟩:=(hT0.r1 hu1).hp
  have e1:sb1=sb:=by rw [c1] at hcs1;simpa using hcs1.symm
  subst e1
  have e2:hb1=hb:=by rw [c2] at hch1;simpa using hch1.symm
  subst e2
  refine ⟨_,rfl,⟨⟨blkA hB1 1 rfl,trivial⟩,⟨c2,trivial⟩,⟨c1,trivial⟩,trivial⟩,num1_c ⟨_,rfl,⟨⟨blkA hB1 1 rfl,trivial⟩,⟨c2,trivial⟩,⟨c1,trivial⟩,trivial⟩,rmarks_c hRR1 fun H2 hR2 hf2=>⟨_,rfl,trivial,?_⟩⟩⟩
  rw [beqI,decide_eq_true rfl]
  obtain ⟨Fq',hK2,hu2⟩:=huph1 H2 Fh1 _ hR2 ⟨hf2,fun _ h=>.inl h⟩
  obtain ⟨hT2,hu⟩:=hT0.both hP1 hu1 hK2 hu2 (hT.v.marks i)
  exact fin hT2 hu
 ·
  refine kspace_k hT0.p fun sbp Fsp hcsp hSp hsubp hup hup2=>⟨_,rfl,psCollect_c hSp fun H1 hS1 hf1 _=>⟨_,_,_,rfl,?_⟩⟩
  have hP1:=hup2 H1 _ hS1 hf1
  have hu1:Up Fp H0 Fp H1:=⟨hf1.mono hsubp,fun _ h=>.inl h⟩
  obtain ⟨sb,F1,hc,hS,_,_,hupq⟩:=(hT0.r1 hu1).sp
  refine ⟨_,rfl,_,hc,rsCollect_c hS fun H2 F2 hS2 hu2=>⟨_,_,_,rfl,?_⟩⟩
  obtain ⟨Fq',hK2,hu2'⟩:=hupq H2 F2 _ hS2 hu2
  obtain ⟨hT2,hu⟩:=hT0.both hP1 hu1 hK2 hu2' hT.v.collect
  exact fin hT2 hu
 ·refine ⟨_,blkA hB 1 rfl,asked_c hT0.p hT0.r hT.v fun H1 f1=>⟨_,rfl,finn f1⟩⟩
 ·refine ⟨_,blkA hB 3 rfl,kfind_k hT0.p hT.v fun H1 f1=>⟨_,_,rfl,_,blkA (hB.fr f1 (by simp)) 3 rfl,find_r (hT0.r.nil f1) hT.v fun H2 f2=>⟨_,_,rfl,pair_end (finn (f1.trans f2))⟩⟩⟩
 ·refine ⟨_,blkA hB 1 rfl,numbered_k hT0.p hT.v fun H1 f1=>⟨_,_,rfl,_,blkA (hB.fr f1 (by simp)) 1 rfl,numbered_r (hT0.r.nil f1) hT.v fun H2 f2=>⟨_,_,rfl,pair_end (finn (f1.trans f2))⟩⟩⟩
 ·refine ⟨_,blkA hB 2 rfl,of_k hT0.p hT.v ⟨_,_,rfl,_,blkA hB 2 rfl,of_r hT0.r hT.v ⟨_,_,rfl,pair_end (finn (Fr.refl _ _))⟩⟩⟩
 ·refine seen_c hT0.p hT0.r hT.v fun H1 f1=>⟨_,rfl,finn f1⟩
end
attribute [local irreducible] bootRH bootH bootL
structure StepV where
 kind:Int
 i:Int
 word:Int
 name:ByteArray
 other:ByteArray
 names:List ByteArray
def StepV.vals (x:StepV) (a:Option Addr) (l c:Nat):List Value:=[.int .i64 x.kind,.int .i64 x.i,.int .i64 x.word,.string x.name,.string x.other,.slice a l c]
def StepV.ok (H:Heap) (x:StepV) (a:Option Addr) (l c:Nat):Prop:=Rd 1 H a l (strsV x.names)∧l≤c∧l≤10000000000000∧(l=0∨∀ q,a=some q→q.block<H.size)
def StepAt (H:Heap) (p:Addr) (x:StepV):Prop:=∃ a l c,(∀ j v,(x.vals a l c)[j]?=some v→cellH H (p.add j)=some v)∧x.ok H a l c
def StepsAt (H:Heap) (a:Option Addr) (n:Nat) (xs:List StepV):Prop:=xs.length=n∧∀ i x,xs[i]?=some x→∃ p,a=some p∧StepAt H (p.add (i*6)) x
theorem cell_lt' {H:Heap}{a:Addr}{v:Value} (h:cellH H a=some v):a.block<H.size:=by
 unfold cellH at h
 rcases Nat.lt_or_ge a.block H.size with h1 | h1
 ·exact h1
 ·rw [Array.getElem?_eq_none h1] at h;cases h
theorem cell_keep {H H':Heap} (hf:Fr [] H H'){a:Addr}{v:Value} (h:cellH H a=some v):cellH H' a=some v:=by
 have hb:=cell_lt' h
 unfold cellH at h ⊢
 rw [hf.2 _ hb (by simp)]
 exact h
theorem StepAt.fr {H H':Heap} (hf:Fr [] H H'){p:Addr}{x:StepV} (h:StepAt H p x):StepAt H' p x:=by
 obtain ⟨a,l,c,h1,h2,h3,h4,h5⟩:=h
 exact ⟨a,l,c,fun j v hv=>cell_keep hf (h1 j v hv),h2.fr' hf (fun _ _=>by simp),h3,h4,h5.imp id fun h5 q hq=>Nat.lt_of_lt_of_le (h5 q hq) hf.1⟩
theorem StepsAt.fr {H H':Heap} (hf:Fr [] H H'){a:Option Addr}{n:Nat}{xs:List StepV} (h:StepsAt H a n xs):StepsAt H' a n xs :=
 ⟨h.1,fun i x hx=>by obtain ⟨p,hp,h1⟩:=h.2 i x hx;exact ⟨p,hp,h1.fr hf⟩⟩
section
variable {H:Heap}{Q:QT}
theorem condD {P:Prop} [Decidable P] {A B:Prop} (h1:P→A) (h2:¬ P→B):cond (decide P) A B:=by
 rw [cond_dec];exact ite_i h1 h2
theorem boots_c {words oops:Int} (hk:Kinds H) (hN:NamesAt H){R:Option Addr→Option Addr→Int→Heap→Prop}
  (hbad:∀ e H',Fr [] H H'→R none none e H') (hok:∀ bp br Fp Fq H',Tw H' bp br Fp Fq (bootS words oops) bootT bootV→Fr [] H H'→(∀ x∈Fp++Fq,H.size≤x)→R (some ⟨bp,0,none⟩) (some ⟨br,0,none⟩) 0 H') :
  callS PP n_k10 #[.int .i64 words,.int .i64 oops] (fun v4 H1=>∃ p5:Option Addr,∃ n6:Int,v4=.tuple #[.pointer p5,.int .i64 n6]∧callS PP n_k11 #[.int .i64 words,.int .i64 oops] (fun v7 H2=>∃ p8:Option Addr,∃ n9:Int,v7=.tuple #[.pointer p8,.int .i64 n9]∧callS PP n_k12 #[.int .i64 n6] (fun v10 H3=>∃ n11:Int,v10=.int .i64 n11∧cond (n11 != n9) (Q (.bool false) H3) (cond (!((Option.isNone p5) == (Option.isNone p8))) (Q (.bool false) H3) (R p5 p8 n9 H3))) H2) H1) H:=by
 have bad:∀ (e:Int) (H2:Heap),Fr [] H H2→(∀ {Q':Value→Heap→Prop} (_:∀ H3,Fr [] H2 H3→Q' (.tuple #[.pointer none,.int .i64 e]) H3),callS PP n_k11 #[.int .i64 words,.int .i64 oops] Q' H2) →
   callS PP n_k11 #[.int .i64 words,.int .i64 oops] (fun v7 H2=>∃ p8:Option Addr,∃ n9:Int,v7=.tuple #[.pointer p8,.int .i64 n9]∧callS PP n_k12 #[.int .i64 e] (fun v10 H3=>∃ n11:Int,v10=.int .i64 n11∧cond (n11 != n9) (Q (.bool false) H3) (cond (!((Option.isNone (none:Option Addr)) == (Option.isNone p8))) (Q (.bool false) H3) (R none p8 n9 H3))) H2) H2:=by
  intro e H2 F2 hR
  refine hR fun H3 f3=>⟨_,_,rfl,num1_c ⟨_,rfl,?_⟩⟩
  rw [bneI,cond_dec,if_neg (fun hn=>hn rfl)]
  simp only [Option.isNone_none,beq_self_eq_true,Bool.not_true,cond_false]
  exact hbad e H3 (F2.trans f3)
 refine kboot_k hk (fun hb=>?_) (fun hg he H1 f1=>?_) fun hg hz b F H1 hP f1 hF=>?_
 ·refine ⟨_,_,rfl,bad 1 H (Fr.refl _ _) fun {Q'} hq=>boot_r hN (fun _=>hq H (Fr.refl _ _)) (fun hg=>absurd hg hb) fun hg=>absurd hg hb⟩
 ·refine ⟨_,_,rfl,bad _ H1 f1 fun {Q'} hq=>boot_r (hN.fr f1 (by simp)) (fun hb=>absurd hg hb) (fun _ _ H3 f3=>hq H3 f3) fun _ hz=>absurd hz he⟩
 ·refine ⟨_,_,rfl,boot_r (hN.fr f1 (by simp)) (fun hb=>absurd hg hb) (fun _ he=>absurd hz he) fun _ _ b2 F2 H2 hR f2 hF2=>⟨_,_,rfl,num1_c ⟨_,rfl,?_⟩⟩⟩
  rw [bneI,cond_dec,if_neg (fun hn=>hn rfl)]
  simp only [Option.isNone_some,beq_self_eq_true,Bool.not_true,cond_false]
  have hv:=boot_ok hg.1 hg.2.1 hg.2.2.1 hg.2.2.2 hz
  have hs:=f1.1
  have hlt:g_word_kinds<H.size:=cell_lt hk.1
  refine hok b b2 F F2 H2 ⟨hP.nil f2,hR,fun x hx hm=>?_,fun hm=>?_,hv⟩ (f1.trans f2) (fun x hx=>?_)
  ·have:=hP.lt x hx;have:=hF2 x hm;omega
  ·have:=hF2 _ hm;omega
  ·rcases List.mem_append.1 hx with hx | hx
   ·exact hF x hx
   ·have:=hF2 x hx;omega
structure Going (H0 H:Heap) (bp br:Nat):Prop where
 tw:∃ Fp Fq s t v,Tw H bp br Fp Fq s t v∧∀ x∈Fp++Fq,H0.size≤x
 fr:Fr [] H0 H
theorem going_end {H0 H:Heap}{bp br:Nat} (hg:Going H0 H bp br){Q:QT} (h:∀ H',Fr [] H0 H'→Q (.bool true) H') :
  callS PP n_k15 #[.pointer (some ⟨bp,0,none⟩),.pointer (some ⟨br,0,none⟩)] (fun v26 H7=>∃ b27:Bool,v26=.bool b27∧cond b27 (callS PP n_k13 #[] (fun v28 H8=>∃ b29:Bool,v28=.bool b29∧Q (.bool b29) H8) H7) (Q (.bool false) H7)) H:=by
 obtain ⟨Fp,Fq,s,t,v,hT,hF⟩:=hg.tw
 refine seen_c hT.p hT.r hT.v fun H1 f1=>⟨_,rfl,?_⟩
 simp only [cond_true]
 exact none_c fun H2 f2=>⟨_,rfl,h H2 ((hg.fr.trans f1).trans f2)⟩
end
end Go.Proofs.YtmkdkplipbocjaaGreatDoor
namespace Go.Proofs.YtmkdkplipbocjaaGreatDoor
open Kw Go.Deep
noncomputable def stepFs:Array Field:=match PP.underlying 39 with
 | some (.struct fs)=>fs
 | _=>#[]
theorem uStep:PP.underlying 39=some (.struct stepFs):=by kernel_rfl
theorem uSteps:PP.underlying 35=some (.slice 39):=by kernel_rfl
theorem uStrs:PP.underlying 37=some (.slice 9):=by kernel_rfl
theorem uWord:PP.underlying 36=some (.int .i64):=by kernel_rfl
theorem cWord:PP.cellsOf 36=1:=by kernel_rfl
theorem cStrs:PP.cellsOf 37=1:=by kernel_rfl
theorem cStep:PP.cellsOf 39=6:=by kernel_rfl
theorem bStr:PP.bytesOf 9=16:=by kernel_rfl
theorem bStep:PP.bytesOf 39=80:=by kernel_rfl
theorem stepF0:(stepFs[0]?).map (fun f=>(f.type,f.offset))=some (3,0):=by kernel_rfl
theorem stepF1:(stepFs[1]?).map (fun f=>(f.type,f.offset))=some (3,1):=by kernel_rfl
theorem stepF2:(stepFs[2]?).map (fun f=>(f.type,f.offset))=some (36,2):=by kernel_rfl
theorem stepF3:(stepFs[3]?).map (fun f=>(f.type,f.offset))=some (9,3):=by kernel_rfl
theorem stepF4:(stepFs[4]?).map (fun f=>(f.type,f.offset))=some (9,4):=by kernel_rfl
theorem stepF5:(stepFs[5]?).map (fun f=>(f.type,f.offset))=some (37,5):=by kernel_rfl
theorem field_open {Hh:Type}{enc:TypeId × Value→Hh}{W:World}{n:Nat}{fs:Array Field}{cs:List Value}{xs:List (DataW Hh × List MemPlace)} (hlen:xs.length=fs.size)
  (h:∀ (i:Nat) (f:Field),fs[i]?=some f→DataW.trod enc PP W 0 (fun _=>true) true n f.type ((cs.drop f.offset).take (PP.cellsOf f.type))=xs[i]?){j:Nat}{t:TypeId}{off:Nat}
  (hf:(fs[j]?).map (fun f=>(f.type,f.offset))=some (t,off)) (hc:PP.cellsOf t=1):∃ y,xs[j]?=some y∧DataW.trod enc PP W 0 (fun _=>true) true n t ((cs.drop off).take 1)=some y:=by
 obtain ⟨f,hf1,hf2⟩:=Option.map_eq_some_iff.1 hf
 obtain ⟨rfl,rfl⟩:=Prod.mk.inj hf2
 have hj:j<fs.size:=by
  rcases Nat.lt_or_ge j fs.size with h1 | h1
  ·exact h1
  ·rw [Array.getElem?_eq_none h1] at hf1;cases hf1
 have hx:xs[j]?=some (xs[j]'(by omega)):=List.getElem?_eq_getElem (by omega)
 refine ⟨_,hx,?_⟩
 have:=h j f hf1
 rw [hc,hx] at this
 exact this
theorem step_open {Hh:Type}{enc:TypeId × Value→Hh}{W:World}{n:Nat}{cs:List Value}{x:DataW Hh × List MemPlace} (h:DataW.trod enc PP W 0 (fun _=>true) true n 39 cs=some x) :
  ∃ y a l c,cs=StepV.vals y a l c∧Rd 1 W.heap a l (strsV y.names)∧l≤c∧(l=0∨∃ m,(l+m)*16∈x.1.weights PP 39):=by
 obtain ⟨xs,n',_,rfl,hl,hxl,hx⟩:=DataW.trod_struct uStep h
 rw [cStep] at hl
 obtain ⟨y0,e0,t0⟩:=field_open hxl hx stepF0 cInt
 obtain ⟨y1,e1,t1⟩:=field_open hxl hx stepF1 cInt
 obtain ⟨y2,e2,t2⟩:=field_open hxl hx stepF2 cWord
 obtain ⟨y3,e3,t3⟩:=field_open hxl hx stepF3 cStr
 obtain ⟨y4,e4,t4⟩:=field_open hxl hx stepF4 cStr
 obtain ⟨y5,e5,t5⟩:=field_open hxl hx stepF5 cStrs
 obtain ⟨k0,v0,_,_⟩:=DataW.trod_int uInt t0
 obtain ⟨k1,v1,_,_⟩:=DataW.trod_int uInt t1
 obtain ⟨k2,v2,_,_⟩:=DataW.trod_int uWord t2
 obtain ⟨s3,v3,_⟩:=DataW.trod_string uStr t3
 obtain ⟨s4,v4,_⟩:=DataW.trod_string uStr t4
 have hcs:∀ v5,(cs.drop 5).take 1=[v5]→cs=[.int .i64 k0,.int .i64 k1,.int .i64 k2,.string s3,.string s4,v5]:=fun v5 h5=>by
  match cs,hl with
  | [a,b,c,d,e,f],_ =>
   simp at v0 v1 v2 v3 v4 h5
   subst v0;subst v1;subst v2;subst v3;subst v4;subst h5
   rfl
 rcases open_strs uStrs uStr cStr t5 with ⟨h5,_⟩ | ⟨a,len,cap,m,Sx,h5,_,hlc,_,hm,hy,hS⟩
 ·exact ⟨⟨k0,k1,k2,s3,s4,[]⟩,none,0,0,hcs _ h5,⟨rfl,fun _=>rfl,fun p hp=>by cases hp⟩,Nat.le_refl _,.inl rfl⟩
 ·refine ⟨⟨k0,k1,k2,s3,s4,(List.range len).map Sx⟩,some a,len,cap,hcs _ h5,⟨by simp [strsV],fun h=>(by cases h),fun p hp i hi=>?_⟩,hlc,.inr ⟨m-len,?_⟩⟩
  ·cases hp
   have hlm:len≤m:=by rw [hm];simpa using hlc
   have:=(hS i (by omega)).1
   have hi':i<len:=by omega
   show W.cell? (a.add i)=_
   rw [this]
   simp [strsV,hi']
  ·simp only [DataW.weights,uStep]
   have hj:(stepFs.toList.map (·.type))[5]?=some 37:=by
    obtain ⟨f,hf1,hf2⟩:=Option.map_eq_some_iff.1 stepF5
    obtain ⟨hf3,_⟩:=Prod.mk.inj hf2
    rw [List.getElem?_map,Array.getElem?_toList,hf1]
    simp [hf3]
   refine DataW.weights_mem_each hj (d:=y5.1) (by rw [List.getElem?_map,e5];rfl) _ ?_
   rw [hy]
   simp [DataW.weights,uStrs,bStr]
theorem weightsAll_mem {Hh:Type}{P:Program}{e:TypeId}{d:DataW Hh}:∀ {ds:List (DataW Hh)},d∈ds→∀ n∈d.weights P e,n∈DataW.weightsAll P e ds
 | [],h,_,_=>by cases h
 | _ :: _,h,n,hn=>by
  simp only [DataW.weightsAll,List.mem_append]
  rcases List.mem_cons.1 h with rfl | h
  ·exact Or.inl hn
  ·exact Or.inr (weightsAll_mem h n hn)
theorem addr_lt {q:Addr}{n m:Nat} (h:(q.add n).block<m):q.block<m:=by
 have e:(q.add n).block=q.block:=by unfold Addr.add;split <;> rfl
 rw [e] at h
 exact h
theorem steps_open {Hh:Type}{enc:TypeId × Value→Hh}{W:World}{v:Value}{d:DataW Hh}{p:List MemPlace} (h:DataW.Trod enc PP W 0 (fun _=>true) true 35 v d p)
  (hv:∃ a l c,v=.slice a l c) (hz:∀ n∈d.weights PP 35,n≤reachBytes):∃ a l c xs,v=.slice a l c∧StepsAt W.heap a l xs∧l≤10000000000000:=by
 obtain ⟨a0,l0,c0,rfl⟩:=hv
 obtain ⟨fuel,h⟩:=h
 rcases open_slice uSteps h with ⟨h0,_⟩ | ⟨a,len,cap,m,n,D,Pl,hcs,_,hlc,_,hm,hx,hel⟩
 ·have e:Value.slice a0 l0 c0=.slice none 0 0:=by simpa [Value.cells] using h0
  cases e
  exact ⟨none,0,0,[],rfl,⟨rfl,fun i x hx=>by simp at hx⟩,by omega⟩
 have e:Value.slice a0 l0 c0=.slice (some a) len cap:=by simpa [Value.cells] using hcs
 cases e
 obtain ⟨hd,_⟩:=Prod.mk.inj hx
 subst hd
 have hlm:l0≤m:=by rw [hm];simpa using hlc
 simp only [DataW.weights,uSteps,List.length_map,List.length_range,bStep] at hz
 have hb:reachBytes=140737488351232:=by decide
 have hlen:l0≤10000000000000:=by
  have:=hz _ (List.mem_cons_self ..)
  rw [hb] at this
  omega
 have each:∀ i,i<l0→∃ y,StepAt W.heap (a.add (i*6)) y:=fun i hi=>by
  obtain ⟨cs',h1,h2⟩:=hel i (by omega)
  rw [cStep] at h1
  obtain ⟨y,b,l,c,rfl,h3,h4,h5⟩:=step_open h2
  obtain ⟨_,_,hc⟩:=World.cells?_some h1
  refine ⟨y,b,l,c,fun j v hv=>?_,h3,h4,?_,?_⟩
  ·have hj:j<6:=by
    rcases Nat.lt_or_ge j 6 with h | h
    ·exact h
    ·rw [List.getElem?_eq_none (by simpa [StepV.vals] using h)] at hv;cases hv
   have:=hc j hj
   rw [hv] at this
   exact this
  ·rcases h5 with h5 | ⟨m',h5⟩
   ·omega
   ·have:=hz ((l+m')*16) (List.mem_cons_of_mem _ (List.mem_append_left _ (weightsAll_mem (List.mem_map.2 ⟨i,by simpa using hi,rfl⟩) _ h5)))
    rw [hb] at this
    omega
  ·by_cases hl:l=0
   ·exact .inl hl
   ·refine .inr fun q hq=>?_
    have h6:=h3.2.2 q hq 0 (by omega)
    have h7:=h3.1
    rw [List.getElem?_eq_getElem (by omega)] at h6
    exact addr_lt (cell_lt' h6)
 obtain ⟨Y,hY⟩:∃ Y:Nat→StepV,∀ i,i<l0→StepAt W.heap (a.add (i*6)) (Y i):=by
  refine ⟨fun i=>if hi:i<l0 then Classical.choose (each i hi) else ⟨0,0,0,⟨#[]⟩,⟨#[]⟩,[]⟩,fun i hi=>?_⟩
  simp only [dif_pos hi]
  exact Classical.choose_spec (each i hi)
 refine ⟨some a,l0,c0,(List.range l0).map Y,rfl,⟨by simp,fun i x hx=>⟨a,rfl,?_⟩⟩,hlen⟩
 have hi:i<l0:=by
  rcases Nat.lt_or_ge i l0 with h | h
  ·exact h
  ·rw [List.getElem?_eq_none (by simpa using h)] at hx;cases hx
 have:x=Y i:=by simpa [hi] using hx.symm
 rw [this]
 exact hY i hi
theorem laidOut:laidOutB PP=true:=by kernel_rfl
theorem old_same {W W':World} (hf:Fr [] W.heap W'.heap){x:MemPlace} (hx:x.block<W.heap.size):W.sameAt W' x:=by
 cases x with
 | cell b off =>
  show cellH W'.heap ⟨b,off,none⟩=cellH W.heap ⟨b,off,none⟩
  have e:W'.heap[b]?=W.heap[b]?:=hf.2 b hx (by simp)
  unfold cellH
  dsimp only
  rw [e]
 | map b=>exact hf.2 _ hx (by simp)
theorem arg_stays {Hh:Type}{enc:TypeId × Value→Hh}{W W':World} (hf:Fr [] W.heap W'.heap){t:TypeId} (hr:PP.readableRec t=true) (hrow:t<PP.types.size){v:Value}{d:DataW Hh}{p:List MemPlace}
  (h:DataW.Trod enc PP W 0 (fun _=>true) true t v d p){sp:Nat→Bool} (hs:∀ x∈p,sp x.block=true):DataW.Trod enc PP W' 0 sp true t v d p:=by
 have hlt:∀ x∈p,x.block<W.heap.size:=fun x hx=>by
  obtain ⟨n,hn⟩:=h
  exact DataW.trod_lt n _ _ _ hn x hx
 exact WideElems.Trod_stays laidOut hr hrow h (fun x hx=>old_same hf (hlt x hx)) hs
end Go.Proofs.YtmkdkplipbocjaaGreatDoor
namespace Kw
open Go
theorem joined_of {P:Program}{f:FuncId}{fn:Func}{s:ChangeSpec}{c:OpenClaim} (h1:c.wf (OpenSpec.ofChange s)=true) (h2:laidOutB P=true) (h3:mapsRowed P=true) (h4:fn.params.all (P.readableRec ·)=true) (h5:namedTie P c.named s.vars=true)
  (h6:(c.stops == [])=true) (h7:(P.stops == [])=true) (h8:(c.knobs == [])=true) (h9:(P.stopKnobs == [])=true) (h10:(c.inPlace == P.inPlace f)=true) (h11:(c.unfollowed == P.unfollowed f)=true) (h12:(c.recurses == P.recurses f)=true) (h13:(c.named == P.varsNamed f)=true)
  (h14:(c.maps == (fn.params.toList++s.plain.varTypes P).any (P.mapsRec ·))=true) (h15:(c.ifaces == (fn.params.toList++s.plain.varTypes P).any (P.ifacesRec ·))=true) (h16:(c.mapsOut == P.mapsAmong fn.resultTypes.toList)=true)
  (h17:(c.loops == (fn.params.toList++s.plain.varTypes P).any (P.loopsFrom ·))=true) (h18:(c.wideKeys == (fn.params.toList++s.plain.varTypes P++fn.resultTypes.toList).any (P.wideKeysFrom ·))=true)
  (h19:s.vars.all (P.varReadable ·)=true) (h20:fn.resultTypes.all (fun t=>P.readableRec t && decide (t<P.types.size))=true) (h21:(c.ifacesOut == fn.resultTypes.toList.any (P.ifacesRec ·))=true) (h22:(c.loopsOut == fn.resultTypes.toList.any (P.loopsFrom ·))=true) (h23:(c.plainKeys == P.plainKeys)=true) (h24:c.shortTexts.isNone=true) (h25:P.stopsHeard=true)
  (h28:P.mayEnter=true) (h29:(c.lifted == P.liftsFinal)=true) (h30:(P.make == some c.make)=true) (h31:c.domain=[]) (h33:c.kinds=[]) (h32:(c.pinned == c.pinnedBy)=true)
  (h26:(c.veiled == (fn.params.toList++s.plain.varTypes P++fn.resultTypes.toList).any (P.veiledRec ·))=true) (h27:c.veiledFits P fn.params.toList (fn.params.toList++s.plain.varTypes P++fn.resultTypes.toList)=true):joinedFacts P f fn s c=true:=by
 unfold joinedFacts
 simp only [h1,h2,h3,h4,h5,h6,h7,h8,h9,h10,h11,h12,h13,h14,h15,h16,h17,h18,h19,h20,h21,h22,h23,h24,h25,h26,h27,h28,h29,h30,h32,Bool.and_self,h31,h33,List.isEmpty_nil,if_true,beq_self_eq_true]
end Kw
namespace Go.Proofs.YtmkdkplipbocjaaGreatDoor
open Kw
def byteS (xs:List Int):ByteArray:=⟨(xs.map fun x=>UInt8.ofNat x.toNat).toArray⟩
theorem evS_text3 {P:Program}{src dst e:TypeId}{b c:Nat}{x0 x1 x2:Int}{Q:QT}{H:Heap} (h1:P.underlying src=some (.slice e)) (h2:P.underlying dst=some .string) (h3:P.underlying e=some (.int .u8))
  (hB:Blk H b #[.int .u8 x0,.int .u8 x1,.int .u8 x2]) (h:Q (.string (byteS [x0,x1,x2])) H):evS P (convert src dst (.slice (some ⟨b,0,none⟩) 3 c)) Q H:=by
 refine evS_bind' (evS_underlying h1 (evS_bind' (evS_underlying h2 (evS_bind' (evS_underlying h3 ?_)))))
 show evS P (Conv.bytesToString (.slice (some ⟨b,0,none⟩) 3 c)) Q H
 unfold Conv.bytesToString
 refine evS_bind' ?_
 refine evS_bind' ?_
 show evS P (loadCellsFrom ⟨b,0,none⟩ 0 3 #[]) _ H
 refine evS_loadCellsFrom [.int .u8 x0,.int .u8 x1,.int .u8 x2] 0 #[] (fun j hj=>?_) ?_
 ·rw [add_none,hB.cell]
  simp
 ·simp only [List.append_toArray,List.nil_append,List.size_toArray,bind,Sem.bind,forIn,pure,evS,List.forIn_toArray,List.forIn_cons,List.forIn_nil]
  exact h
theorem own_c {H:Heap}{n:Int}{Q:QT} (h:∀ H' s,s=byteS [109,IntKind.wrap .u8 (shrI .i64 n 8),IntKind.wrap .u8 n]→Fr [] H H'→Q (.string s) H'):callS PP n_k128 #[.int .i64 n] Q H:=by
 apply k128_ok
 unfold k128 A0 sV lV
 exact evS_text3 (e:=5) (by kernel_rfl) (by kernel_rfl) (by kernel_rfl) (Blk.new H _ _) ⟨_,rfl,h _ _ rfl (Fr.push _ _ _)⟩
abbrev Hd:=Option Addr × Nat × Nat
abbrev hdV (h:Hd):Value:=.slice h.1 h.2.1 h.2.2
def TxR:RepT (List ByteArray):=fun H ys x F=>∃ a l c,ys=[.slice a l c]∧Own 1 H a l c (strsV x) F
theorem TxR.fr:FrR TxR:=fun H H' ys x F ⟨a,l,c,e,h⟩ he=>⟨a,l,c,e,h.keep he⟩
theorem TxR.lt:LtR TxR:=fun H ys x F ⟨a,l,c,e,h⟩=>h.lt
def IxR:RepT (List Int):=fun H ys x F=>∃ a l c,ys=[.slice a l c]∧Own 1 H a l c (intsV x) F
theorem IxR.fr:FrR IxR:=fun H H' ys x F ⟨a,l,c,e,h⟩ he=>⟨a,l,c,e,h.keep he⟩
theorem IxR.lt:LtR IxR:=fun H ys x F ⟨a,l,c,e,h⟩=>h.lt
def upd {α:Type} (f:Nat→α) (k:Nat) (v:α):Nat→α:=fun j=>if j=k then v else f j
theorem upd_eq {α:Type} (f:Nat→α) (k:Nat) (v:α):upd f k v k=v:=by simp [upd]
theorem upd_ne {α:Type} (f:Nat→α){k j:Nat} (v:α) (h:j≠k):upd f k v j=f j:=by simp [upd,h]
structure LS (H:Heap) (xb:Nat) (hd:Nat→Hd) (Fs:Nat→Foot) (zs ws:List (List ByteArray)) (is vs:List (List Int)):Prop where
 blk:Blk H xb #[hdV (hd 0),hdV (hd 1),hdV (hd 2),hdV (hd 3)]
 t:LRep 1 TxR H (hd 0).1 (hd 0).2.1 (hd 0).2.2 zs (Fs 0)
 w:LRep 1 TxR H (hd 1).1 (hd 1).2.1 (hd 1).2.2 ws (Fs 1)
 i:LRep 1 IxR H (hd 2).1 (hd 2).2.1 (hd 2).2.2 is (Fs 2)
 v:LRep 1 IxR H (hd 3).1 (hd 3).2.1 (hd 3).2.2 vs (Fs 3)
 x:∀ k,k<4→xb∉Fs k
 d:∀ j k,j<4→k<4→j≠k→Disj (Fs j) (Fs k)
theorem fr_setB {H:Heap}{b:Nat} (j:Nat) (v:Value):Fr [b] H (setH H ((⟨b,0,none⟩:Addr).add j) v):=by rw [add_none];exact Fr.set (by simp)
section
variable {H:Heap}{xb:Nat}{hd:Nat→Hd}{Fs:Nat→Foot}{zs ws:List (List ByteArray)}{is vs:List (List Int)}
theorem LS.lt (h:LS H xb hd Fs zs ws is vs):∀ k,k<4→∀ y∈Fs k,y<H.size:=by
 intro k hk
 match k,hk with
 | 0,_=>exact h.t.lt TxR.lt
 | 1,_=>exact h.w.lt TxR.lt
 | 2,_=>exact h.i.lt IxR.lt
 | 3,_=>exact h.v.lt IxR.lt
theorem LS.fr (h:LS H xb hd Fs zs ws is vs){H':Heap}{G:Foot} (hf:Fr G H H') (hx:xb∉G) (hG:∀ k,k<4→Disj (Fs k) G):LS H' xb hd Fs zs ws is vs :=
 ⟨h.blk.fr hf hx,h.t.fr TxR.fr TxR.lt hf (hG 0 (by decide)),h.w.fr TxR.fr TxR.lt hf (hG 1 (by decide)),h.i.fr IxR.fr IxR.lt hf (hG 2 (by decide)),h.v.fr IxR.fr IxR.lt hf (hG 3 (by decide)),h.x,h.d⟩
theorem LS.nil (h:LS H xb hd Fs zs ws is vs){H':Heap} (hf:Fr [] H H'):LS H' xb hd Fs zs ws is vs:=h.fr hf (by simp) fun _ _=>Disj.nil_right _
theorem LS.snoc0 (h:LS H xb hd Fs zs ws is vs){a:Option Addr}{l c:Nat}{x:List ByteArray}{G:Foot} (ho:Own 1 H a l c (strsV x) G) (hG:∀ y∈G,y≠xb∧∀ k,k<4→y∉Fs k) (hn:zs.length<1000000){Q:QT}
  (hq:∀ h' F' H3,Wr H3 (⟨xb,0,none⟩:Addr)→LS (setH H3 (⟨xb,0,none⟩:Addr) (hdV h')) xb (upd hd 0 h') (upd Fs 0 F') (zs++[x]) ws is vs→Fr (xb :: Fs 0) H (setH H3 (⟨xb,0,none⟩:Addr) (hdV h'))→(∀ y∈F',y∈Fs 0∨y∈G∨H.size≤y)→Q (hdV h') H3) :
  evS PP (Builtin.append_ #[80,80] 80 #[hdV (hd 0),.slice (some (⟨H.size,0,none⟩:Addr)) 1 1]) Q (H.push (.cells #[.slice a l c] 37)):=by
 have hs1:sliceInfo PP 80=some (1,24,some (.slice none 0 0)):=by kernel_rfl
 have hlen:=h.t.len
 have hltk:=h.lt 0 (by decide)
 have hltG:=ho.lt
 refine LRep.snoc (x:=x) (G:=G) TxR.fr TxR.lt hs1 rfl (by kernel_rfl) h.t ⟨a,l,c,rfl,ho⟩ rfl (fun y hy hy2=>(hG y hy2).2 0 (by decide) hy) (by simp [oneC]) (by omega) (by decide) (by decide) fun a' c' F' H3 g1 g2 g3=>?_
 have hB3:=h.blk.fr g2 (h.x 0 (by decide))
 have nx:xb∉F':=fun hm=>by
  rcases g3 _ hm with h1 | h1 | h1
  ·exact h.x 0 (by decide) h1
  ·exact (hG _ h1).1 rfl
  ·have:=h.blk.lt;omega
 have fS:Fr [xb] H3 (setH H3 (⟨xb,0,none⟩:Addr) (hdV (a',(hd 0).2.1+1,c'))):=Fr.set (by simp)
 have dj:∀ j,j<4→j≠0→Disj F' (Fs j):=fun j hj hne y hy hm=>by
  rcases g3 _ hy with h1 | h1 | h1
  ·exact h.d 0 j (by decide) hj (fun e=>hne e.symm) y h1 hm
  ·exact (hG _ h1).2 j hj hm
  ·have:=h.lt j hj y hm;omega
 refine hq (a',(hd 0).2.1+1,c') F' H3 (hB3.wr (by simp)) ⟨by simpa [upd] using hB3.set 0 (hdV (a',(hd 0).2.1+1,c')),by simpa [upd] using (g1.fr TxR.fr TxR.lt fS (by intro y hy hm;simp at hm;subst hm;exact nx hy)),by simpa [upd] using ((h.w.fr TxR.fr TxR.lt g2 (h.d 1 0 (by decide) (by decide) (by decide))).fr TxR.fr TxR.lt fS (by intro y hy hm;simp at hm;subst hm;exact h.x 1 (by decide) hy)),by simpa [upd] using ((h.i.fr IxR.fr IxR.lt g2 (h.d 2 0 (by decide) (by decide) (by decide))).fr IxR.fr IxR.lt fS (by intro y hy hm;simp at hm;subst hm;exact h.x 2 (by decide) hy)),by simpa [upd] using ((h.v.fr IxR.fr IxR.lt g2 (h.d 3 0 (by decide) (by decide) (by decide))).fr IxR.fr IxR.lt fS (by intro y hy hm;simp at hm;subst hm;exact h.x 3 (by decide) hy)),fun j hj=>?_,fun j k hj hk hjk=>?_⟩ ((g2.mono fun y hy=>by simp [hy]).trans (fS.mono fun y hy=>by simp at hy;simp [hy])) g3
 ·by_cases e:j=0
  ·rw [e,upd_eq];exact nx
  ·rw [upd_ne _ _ e];exact h.x j hj
 ·by_cases e:j=0
  ·rw [e,upd_eq,upd_ne _ _ (fun e2=>hjk (e.trans e2.symm))];exact dj k hk fun e2=>hjk (e.trans e2.symm)
  ·rw [upd_ne _ _ e]
   by_cases e2:k=0
   ·rw [e2,upd_eq];exact (dj j hj e).symm
   ·rw [upd_ne _ _ e2];exact h.d j k hj hk hjk
theorem LS.snoc1 (h:LS H xb hd Fs zs ws is vs){a:Option Addr}{l c:Nat}{x:List ByteArray}{G:Foot} (ho:Own 1 H a l c (strsV x) G) (hG:∀ y∈G,y≠xb∧∀ k,k<4→y∉Fs k) (hn:ws.length<1000000){Q:QT}
  (hq:∀ h' F' H3,Wr H3 ((⟨xb,0,none⟩:Addr).add 1)→LS (setH H3 ((⟨xb,0,none⟩:Addr).add 1) (hdV h')) xb (upd hd 1 h') (upd Fs 1 F') zs (ws++[x]) is vs→Fr (xb :: Fs 1) H (setH H3 ((⟨xb,0,none⟩:Addr).add 1) (hdV h'))→(∀ y∈F',y∈Fs 1∨y∈G∨H.size≤y)→Q (hdV h') H3) :
  evS PP (Builtin.append_ #[80,80] 80 #[hdV (hd 1),.slice (some (⟨H.size,0,none⟩:Addr)) 1 1]) Q (H.push (.cells #[.slice a l c] 37)):=by
 have hs1:sliceInfo PP 80=some (1,24,some (.slice none 0 0)):=by kernel_rfl
 have hlen:=h.w.len
 have hltk:=h.lt 1 (by decide)
 have hltG:=ho.lt
 refine LRep.snoc (x:=x) (G:=G) TxR.fr TxR.lt hs1 rfl (by kernel_rfl) h.w ⟨a,l,c,rfl,ho⟩ rfl (fun y hy hy2=>(hG y hy2).2 1 (by decide) hy) (by simp [oneC]) (by omega) (by decide) (by decide) fun a' c' F' H3 g1 g2 g3=>?_
 have hB3:=h.blk.fr g2 (h.x 1 (by decide))
 have nx:xb∉F':=fun hm=>by
  rcases g3 _ hm with h1 | h1 | h1
  ·exact h.x 1 (by decide) h1
  ·exact (hG _ h1).1 rfl
  ·have:=h.blk.lt;omega
 have fS:Fr [xb] H3 (setH H3 ((⟨xb,0,none⟩:Addr).add 1) (hdV (a',(hd 1).2.1+1,c'))):=fr_setB 1 _
 have dj:∀ j,j<4→j≠1→Disj F' (Fs j):=fun j hj hne y hy hm=>by
  rcases g3 _ hy with h1 | h1 | h1
  ·exact h.d 1 j (by decide) hj (fun e=>hne e.symm) y h1 hm
  ·exact (hG _ h1).2 j hj hm
  ·have:=h.lt j hj y hm;omega
 refine hq (a',(hd 1).2.1+1,c') F' H3 (by rw [add_none,Nat.zero_add];exact hB3.wr (by simp)) ⟨by rw [add_none,Nat.zero_add];simpa [upd] using hB3.set 1 (hdV (a',(hd 1).2.1+1,c')),by simpa [upd] using ((h.t.fr TxR.fr TxR.lt g2 (h.d 0 1 (by decide) (by decide) (by decide))).fr TxR.fr TxR.lt fS (by intro y hy hm;simp at hm;subst hm;exact h.x 0 (by decide) hy)),by simpa [upd] using (g1.fr TxR.fr TxR.lt fS (by intro y hy hm;simp at hm;subst hm;exact nx hy)),by simpa [upd] using ((h.i.fr IxR.fr IxR.lt g2 (h.d 2 1 (by decide) (by decide) (by decide))).fr IxR.fr IxR.lt fS (by intro y hy hm;simp at hm;subst hm;exact h.x 2 (by decide) hy)),by simpa [upd] using ((h.v.fr IxR.fr IxR.lt g2 (h.d 3 1 (by decide) (by decide) (by decide))).fr IxR.fr IxR.lt fS (by intro y hy hm;simp at hm;subst hm;exact h.x 3 (by decide) hy)),fun j hj=>?_,fun j k hj hk hjk=>?_⟩ ((g2.mono fun y hy=>by simp [hy]).trans (fS.mono fun y hy=>by simp at hy;simp [hy])) g3
 ·by_cases e:j=1
  ·rw [e,upd_eq];exact nx
  ·rw [upd_ne _ _ e];exact h.x j hj
 ·by_cases e:j=1
  ·rw [e,upd_eq,upd_ne _ _ (fun e2=>hjk (e.trans e2.symm))];exact dj k hk fun e2=>hjk (e.trans e2.symm)
  ·rw [upd_ne _ _ e]
   by_cases e2:k=1
   ·rw [e2,upd_eq];exact (dj j hj e).symm
   ·rw [upd_ne _ _ e2];exact h.d j k hj hk hjk
theorem LS.snoc2 (h:LS H xb hd Fs zs ws is vs){a:Option Addr}{l c:Nat}{x:List Int}{G:Foot} (ho:Own 1 H a l c (intsV x) G) (hG:∀ y∈G,y≠xb∧∀ k,k<4→y∉Fs k) (hn:is.length<1000000){Q:QT}
  (hq:∀ h' F' H3,Wr H3 ((⟨xb,0,none⟩:Addr).add 2)→LS (setH H3 ((⟨xb,0,none⟩:Addr).add 2) (hdV h')) xb (upd hd 2 h') (upd Fs 2 F') zs ws (is++[x]) vs→Fr (xb :: Fs 2) H (setH H3 ((⟨xb,0,none⟩:Addr).add 2) (hdV h'))→(∀ y∈F',y∈Fs 2∨y∈G∨H.size≤y)→Q (hdV h') H3) :
  evS PP (Builtin.append_ #[178,178] 178 #[hdV (hd 2),.slice (some (⟨H.size,0,none⟩:Addr)) 1 1]) Q (H.push (.cells #[.slice a l c] 66)):=by
 have hs1:sliceInfo PP 178=some (1,24,some (.slice none 0 0)):=by kernel_rfl
 have hlen:=h.i.len
 have hltk:=h.lt 2 (by decide)
 have hltG:=ho.lt
 refine LRep.snoc (x:=x) (G:=G) IxR.fr IxR.lt hs1 rfl (by kernel_rfl) h.i ⟨a,l,c,rfl,ho⟩ rfl (fun y hy hy2=>(hG y hy2).2 2 (by decide) hy) (by simp [oneC]) (by omega) (by decide) (by decide) fun a' c' F' H3 g1 g2 g3=>?_
 have hB3:=h.blk.fr g2 (h.x 2 (by decide))
 have nx:xb∉F':=fun hm=>by
  rcases g3 _ hm with h1 | h1 | h1
  ·exact h.x 2 (by decide) h1
  ·exact (hG _ h1).1 rfl
  ·have:=h.blk.lt;omega
 have fS:Fr [xb] H3 (setH H3 ((⟨xb,0,none⟩:Addr).add 2) (hdV (a',(hd 2).2.1+1,c'))):=fr_setB 2 _
 have dj:∀ j,j<4→j≠2→Disj F' (Fs j):=fun j hj hne y hy hm=>by
  rcases g3 _ hy with h1 | h1 | h1
  ·exact h.d 2 j (by decide) hj (fun e=>hne e.symm) y h1 hm
  ·exact (hG _ h1).2 j hj hm
  ·have:=h.lt j hj y hm;omega
 refine hq (a',(hd 2).2.1+1,c') F' H3 (by rw [add_none,Nat.zero_add];exact hB3.wr (by simp)) ⟨by rw [add_none,Nat.zero_add];simpa [upd] using hB3.set 2 (hdV (a',(hd 2).2.1+1,c')),by simpa [upd] using ((h.t.fr TxR.fr TxR.lt g2 (h.d 0 2 (by decide) (by decide) (by decide))).fr TxR.fr TxR.lt fS (by intro y hy hm;simp at hm;subst hm;exact h.x 0 (by decide) hy)),by simpa [upd] using ((h.w.fr TxR.fr TxR.lt g2 (h.d 1 2 (by decide) (by decide) (by decide))).fr TxR.fr TxR.lt fS (by intro y hy hm;simp at hm;subst hm;exact h.x 1 (by decide) hy)),by simpa [upd] using (g1.fr IxR.fr IxR.lt fS (by intro y hy hm;simp at hm;subst hm;exact nx hy)),by simpa [upd] using ((h.v.fr IxR.fr IxR.lt g2 (h.d 3 2 (by decide) (by decide) (by decide))).fr IxR.fr IxR.lt fS (by intro y hy hm;simp at hm;subst hm;exact h.x 3 (by decide) hy)),fun j hj=>?_,fun j k hj hk hjk=>?_⟩ ((g2.mono fun y hy=>by simp [hy]).trans (fS.mono fun y hy=>by simp at hy;simp [hy])) g3
 ·by_cases e:j=2
  ·rw [e,upd_eq];exact nx
  ·rw [upd_ne _ _ e];exact h.x j hj
 ·by_cases e:j=2
  ·rw [e,upd_eq,upd_ne _ _ (fun e2=>hjk (e.trans e2.symm))];exact dj k hk fun e2=>hjk (e.trans e2.symm)
  ·rw [upd_ne _ _ e]
   by_cases e2:k=2
   ·rw [e2,upd_eq];exact (dj j hj e).symm
   ·rw [upd_ne _ _ e2];exact h.d j k hj hk hjk
theorem LS.snoc3 (h:LS H xb hd Fs zs ws is vs){a:Option Addr}{l c:Nat}{x:List Int}{G:Foot} (ho:Own 1 H a l c (intsV x) G) (hG:∀ y∈G,y≠xb∧∀ k,k<4→y∉Fs k) (hn:vs.length<1000000){Q:QT}
  (hq:∀ h' F' H3,Wr H3 ((⟨xb,0,none⟩:Addr).add 3)→LS (setH H3 ((⟨xb,0,none⟩:Addr).add 3) (hdV h')) xb (upd hd 3 h') (upd Fs 3 F') zs ws is (vs++[x])→Fr (xb :: Fs 3) H (setH H3 ((⟨xb,0,none⟩:Addr).add 3) (hdV h'))→(∀ y∈F',y∈Fs 3∨y∈G∨H.size≤y)→Q (hdV h') H3) :
  evS PP (Builtin.append_ #[178,178] 178 #[hdV (hd 3),.slice (some (⟨H.size,0,none⟩:Addr)) 1 1]) Q (H.push (.cells #[.slice a l c] 66)):=by
 have hs1:sliceInfo PP 178=some (1,24,some (.slice none 0 0)):=by kernel_rfl
 have hlen:=h.v.len
 have hltk:=h.lt 3 (by decide)
 have hltG:=ho.lt
 refine LRep.snoc (x:=x) (G:=G) IxR.fr IxR.lt hs1 rfl (by kernel_rfl) h.v ⟨a,l,c,rfl,ho⟩ rfl (fun y hy hy2=>(hG y hy2).2 3 (by decide) hy) (by simp [oneC]) (by omega) (by decide) (by decide) fun a' c' F' H3 g1 g2 g3=>?_
 have hB3:=h.blk.fr g2 (h.x 3 (by decide))
 have nx:xb∉F':=fun hm=>by
  rcases g3 _ hm with h1 | h1 | h1
  ·exact h.x 3 (by decide) h1
  ·exact (hG _ h1).1 rfl
  ·have:=h.blk.lt;omega
 have fS:Fr [xb] H3 (setH H3 ((⟨xb,0,none⟩:Addr).add 3) (hdV (a',(hd 3).2.1+1,c'))):=fr_setB 3 _
 have dj:∀ j,j<4→j≠3→Disj F' (Fs j):=fun j hj hne y hy hm=>by
  rcases g3 _ hy with h1 | h1 | h1
  ·exact h.d 3 j (by decide) hj (fun e=>hne e.symm) y h1 hm
  ·exact (hG _ h1).2 j hj hm
  ·have:=h.lt j hj y hm;omega
 refine hq (a',(hd 3).2.1+1,c') F' H3 (by rw [add_none,Nat.zero_add];exact hB3.wr (by simp)) ⟨by rw [add_none,Nat.zero_add];simpa [upd] using hB3.set 3 (hdV (a',(hd 3).2.1+1,c')),by simpa [upd] using ((h.t.fr TxR.fr TxR.lt g2 (h.d 0 3 (by decide) (by decide) (by decide))).fr TxR.fr TxR.lt fS (by intro y hy hm;simp at hm;subst hm;exact h.x 0 (by decide) hy)),by simpa [upd] using ((h.w.fr TxR.fr TxR.lt g2 (h.d 1 3 (by decide) (by decide) (by decide))).fr TxR.fr TxR.lt fS (by intro y hy hm;simp at hm;subst hm;exact h.x 1 (by decide) hy)),by simpa [upd] using ((h.i.fr IxR.fr IxR.lt g2 (h.d 2 3 (by decide) (by decide) (by decide))).fr IxR.fr IxR.lt fS (by intro y hy hm;simp at hm;subst hm;exact h.x 2 (by decide) hy)),by simpa [upd] using (g1.fr IxR.fr IxR.lt fS (by intro y hy hm;simp at hm;subst hm;exact nx hy)),fun j hj=>?_,fun j k hj hk hjk=>?_⟩ ((g2.mono fun y hy=>by simp [hy]).trans (fS.mono fun y hy=>by simp at hy;simp [hy])) g3
 ·by_cases e:j=3
  ·rw [e,upd_eq];exact nx
  ·rw [upd_ne _ _ e];exact h.x j hj
 ·by_cases e:j=3
  ·rw [e,upd_eq,upd_ne _ _ (fun e2=>hjk (e.trans e2.symm))];exact dj k hk fun e2=>hjk (e.trans e2.symm)
  ·rw [upd_ne _ _ e]
   by_cases e2:k=3
   ·rw [e2,upd_eq];exact (dj j hj e).symm
   ·rw [upd_ne _ _ e2];exact h.d j k hj hk hjk
end
def allF (xb:Nat) (Fs:Nat→Foot):Foot:=xb :: (Fs 0++(Fs 1++(Fs 2++Fs 3)))
theorem allF_x {xb:Nat}{Fs:Nat→Foot}:xb∈allF xb Fs:=by simp [allF]
theorem allF_k {xb:Nat}{Fs:Nat→Foot}{k:Nat} (hk:k<4){y:Nat} (hy:y∈Fs k):y∈allF xb Fs:=by
 unfold allF
 simp only [List.mem_cons,List.mem_append]
 match k,hk with
 | 0,_=>simp [hy]
 | 1,_=>simp [hy]
 | 2,_=>simp [hy]
 | 3,_=>simp [hy]
theorem allF_mem {xb:Nat}{Fs:Nat→Foot}{y:Nat} (h:y∈allF xb Fs):y=xb∨∃ k,k<4∧y∈Fs k:=by
 unfold allF at h
 simp only [List.mem_cons,List.mem_append] at h
 rcases h with h | h | h | h | h
 ·exact .inl h
 ·exact .inr ⟨0,by decide,h⟩
 ·exact .inr ⟨1,by decide,h⟩
 ·exact .inr ⟨2,by decide,h⟩
 ·exact .inr ⟨3,by decide,h⟩
structure LB (B:Foot) (H0 H:Heap) (xb:Nat) (hd:Nat→Hd) (Fs:Nat→Foot) (zs ws:List (List ByteArray)) (is vs:List (List Int)):Prop where
 ls:LS H xb hd Fs zs ws is vs
 up:Up B H0 (allF xb Fs) H
section
variable {B:Foot}{H0 H H':Heap}{xb:Nat}{hd hd':Nat→Hd}{Fs:Nat→Foot}{zs ws zs' ws':List (List ByteArray)}{is vs is' vs':List (List Int)}
theorem LB.step (h:LB B H0 H xb hd Fs zs ws is vs){k:Nat} (hk:k<4){F' G:Foot} (L:LS H' xb hd' (upd Fs k F') zs' ws' is' vs') (f:Fr (xb :: Fs k) H H') (g:∀ y∈F',y∈Fs k∨y∈G∨H.size≤y) (hG:∀ y∈G,H0.size≤y):LB B H0 H' xb hd' (upd Fs k F') zs' ws' is' vs':=by
 have h1:=h.up.1.1
 refine ⟨L,⟨Nat.le_trans h1 f.1,fun b hb hn=>?_⟩,fun y hy=>?_⟩
 ·have hnm:b∉xb :: Fs k:=fun hm=>by
   have:b∈allF xb Fs:=by
    rcases List.mem_cons.1 hm with rfl | hm
    ·exact allF_x
    ·exact allF_k hk hm
   rcases h.up.2 b this with h2 | h2
   ·exact hn h2
   ·omega
  rw [f.2 b (by omega) hnm,h.up.1.2 b hb hn]
 ·rcases allF_mem hy with rfl | ⟨j,hj,hy⟩
  ·exact h.up.2 _ allF_x
  ·by_cases e:j=k
   ·rw [e,upd_eq] at hy
    rcases g y hy with h2 | h2 | h2
    ·exact h.up.2 _ (allF_k hk h2)
    ·exact .inr (hG _ h2)
    ·exact .inr (by omega)
   ·rw [upd_ne _ _ e] at hy
    exact h.up.2 _ (allF_k hj hy)
theorem LB.nil (h:LB B H0 H xb hd Fs zs ws is vs) (f:Fr [] H H'):LB B H0 H' xb hd Fs zs ws is vs:=⟨h.ls.nil f,h.up.trans (Up.of_nil f)⟩
theorem LB.out (h:LB B H0 H xb hd Fs zs ws is vs){G:Foot} (hG:∀ y∈G,H.size≤y):∀ y∈G,y≠xb∧∀ k,k<4→y∉Fs k:=fun y hy =>
 ⟨fun e=>by have:=h.ls.blk.lt;have:=hG y hy;omega,fun k hk hm=>by have:=h.ls.lt k hk y hm;have:=hG y hy;omega⟩
theorem LB.late (h:LB B H0 H xb hd Fs zs ws is vs){G:Foot} (hG:∀ y∈G,H.size≤y):∀ y∈G,H0.size≤y:=fun y hy=>Nat.le_trans h.up.1.1 (hG y hy)
end
def LJ (B:Foot) (H0 H:Heap) (xb n m:Nat):Prop:=∃ hd Fs zs is,LB B H0 H xb hd Fs zs zs is is∧zs.length=n∧is.length=m∧(∀ z∈zs,z.length≤100000000)∧∀ z∈is,z.length≤100000000
noncomputable def ownJ (v:KV) (t:TB) (o:Int):List ByteArray:=match plK v o with
 | some i=>(infoK v t i).own
 | none=>[]
noncomputable def fldJ (v:KV) (t:TB) (o:Int):List ByteArray:=match plK v o with
 | some i=>(fieldsK v i).map (tx t)
 | none=>[]
noncomputable def undJ (v:KV) (o:Int):List Int:=match plK v o with
 | some _=>underK v o
 | none=>[]
section
variable {H:Heap}{b:Nat}{F:Foot}{s:SP}{t:TB}{v:KV}{Q:QT}
theorem ownJ_len (hv:KAll s t v) (o:Int):(ownJ v t o).length≤100000000:=by
 unfold ownJ
 cases hp:plK v o with
 | none=>simp
 | some i=>have:=infoK_len hv (plK_some hp).1;simp only;omega
theorem fldJ_len (hv:KAll s t v) (o:Int):(fldJ v t o).length≤100000000:=by
 unfold fldJ
 cases hp:plK v o with
 | none=>simp
 | some i =>
  have:=fields_len hv.ks i (plK_some hp).1
  have:=(plK_some hp).1
  have:=hv.ks.shape.many1
  simp only [List.length_map]
  have h2:8192*(i+1)≤8192*257:=Nat.mul_le_mul_left _ (by omega)
  omega
theorem undJ_len (hv:KAll s t v) (o:Int):(undJ v o).length≤100000000:=by
 unfold undJ
 cases hp:plK v o with
 | none=>simp
 | some i =>
  have h1:=hv.ks.shape.many1
  have h2:(underK v o).length≤v.cls.length:=by
   unfold underK
   rw [List.length_map]
   exact Nat.le_trans (List.length_filter_le _ _) (by simp)
  simp only
  omega
theorem kinfo_j (hP:PK H b F s t) (hv:KAll s t v){o:Int} (h:∀ s1 s2 n e a l c G H',Own 1 H' a l c (strsV (ownJ v t o)) G→Fr [] H H'→(∀ x∈G,H.size≤x)→Q (.tuple #[.agg #[.string s1,.string s2,.slice a l c,.int .i64 n],.int .i64 e]) H') :
  callS PP n_k67 #[.pointer (some ⟨b,0,none⟩),.int .i64 o] Q H :=
 kinfo_k hP hv (fun i hp a l c G H' ho f hG=>h _ _ _ _ _ _ _ G H' (by unfold ownJ;rw [hp];exact ho) f hG) fun hp H' f=>h _ _ _ _ _ _ _ [] H' (by unfold ownJ;rw [hp];exact Own.nil 1 H') f (by simp)
theorem info_j (hP:RK H b F s t) (hv:KAll s t v){o:Int} (h:∀ s1 s2 n e a l c G H',Own 1 H' a l c (strsV (ownJ v t o)) G→Fr [] H H'→(∀ x∈G,H.size≤x)→Q (.tuple #[.agg #[.string s1,.string s2,.slice a l c,.int .i64 n],.int .i64 e]) H') :
  callS PP n_k124 #[.pointer (some ⟨b,0,none⟩),.int .i64 o] Q H :=
 info_r hP hv (fun i hp a l c G H' ho f hG=>h _ _ _ _ _ _ _ G H' (by unfold ownJ;rw [hp];exact ho) f hG) fun hp H' f=>h _ _ _ _ _ _ _ [] H' (by unfold ownJ;rw [hp];exact Own.nil 1 H') f (by simp)
theorem kfields_j (hP:PK H b F s t) (hv:KAll s t v){o:Int} (h:∀ e a l c G H',Own 1 H' a l c (strsV (fldJ v t o)) G→Fr [] H H'→(∀ x∈G,H.size≤x)→Q (.tuple #[.slice a l c,.int .i64 e]) H') :
  callS PP n_k101 #[.pointer (some ⟨b,0,none⟩),.int .i64 o] Q H :=
 kfields_k hP hv (fun i hp a l c G H' ho f hG=>h _ _ _ _ G H' (by unfold fldJ;rw [hp];exact ho) f hG) fun hp H' f=>h _ _ _ _ [] H' (by unfold fldJ;rw [hp];exact Own.nil 1 H') f (by simp)
theorem fields_j (hP:RK H b F s t) (hv:KAll s t v){o:Int} (h:∀ e a l c G H',Own 1 H' a l c (strsV (fldJ v t o)) G→Fr [] H H'→(∀ x∈G,H.size≤x)→Q (.tuple #[.slice a l c,.int .i64 e]) H') :
  callS PP n_k125 #[.pointer (some ⟨b,0,none⟩),.int .i64 o] Q H :=
 fields_r hP hv (fun i hp a l c G H' ho f hG=>h _ _ _ _ G H' (by unfold fldJ;rw [hp];exact ho) f hG) fun hp H' f=>h _ _ _ _ [] H' (by unfold fldJ;rw [hp];exact Own.nil 1 H') f (by simp)
theorem kunder_j (hP:PK H b F s t) (hv:KAll s t v){o:Int} (h:∀ a l c G H',Own 1 H' a l c (intsV (undJ v o)) G→Fr [] H H'→(∀ x∈G,H.size≤x)→Q (.slice a l c) H') :
  callS PP n_k72 #[.pointer (some ⟨b,0,none⟩),.int .i64 o] Q H :=
 under_k hP hv (fun i hp a l c G H' ho f hG=>h _ _ _ G H' (by unfold undJ;rw [hp];exact ho) f hG) fun hp H' f=>h _ _ _ [] H' (by unfold undJ;rw [hp];exact Own.nil 1 H') f (by simp)
theorem under_j (hP:RK H b F s t) (hv:KAll s t v){o:Int} (h:∀ a l c G H',Own 1 H' a l c (intsV (undJ v o)) G→Fr [] H H'→(∀ x∈G,H.size≤x)→Q (.slice a l c) H') :
  callS PP n_k126 #[.pointer (some ⟨b,0,none⟩),.int .i64 o] Q H :=
 under_r hP hv (fun i hp a l c G H' ho f hG=>h _ _ _ G H' (by unfold undJ;rw [hp];exact ho) f hG) fun hp H' f=>h _ _ _ [] H' (by unfold undJ;rw [hp];exact Own.nil 1 H') f (by simp)
end
theorem snoc_len {α:Type}{zs:List (List α)}{x:List α} (h:∀ z∈zs,z.length≤100000000) (hx:x.length≤100000000):∀ z∈zs++[x],z.length≤100000000:=fun z hz=>by
 rcases List.mem_append.1 hz with h1 | h1
 ·exact h z h1
 ·simp at h1;rw [h1];exact hx
section
variable {H:Heap}{bp br:Nat}{Fp Fq:Foot}{s:SP}{t:TB}{v:KV}{Q:QT}
theorem gather_c (hT:Tw H bp br Fp Fq s t v) (h:∀ H' xb n m,LJ [] H H' xb n m→n≤2000→m≤2000→Q (.pointer (some ⟨xb,0,none⟩)) H') :
  callS PP n_k29 #[.pointer (some ⟨bp,0,none⟩),.pointer (some ⟨br,0,none⟩)] Q H:=by
 apply k29_ok
 unfold k29 A0 iV wW pV sV lV cS;dsimp only [shH]
 have hgl:(globsK v t).length≤100000000:=by have:=hT.v.ks.shape.globs;simp only [globsK,List.length_map];omega
 have fp:=Fr.push [] H (.cells #[.slice none 0 0,.slice none 0 0,.slice none 0 0,.slice none 0 0] 180)
 have hB0:=Blk.new H #[.slice none 0 0,.slice none 0 0,.slice none 0 0,.slice none 0 0] 180
 generalize (H.push (.cells #[.slice none 0 0,.slice none 0 0,.slice none 0 0,.slice none 0 0] 180))=H0 at fp hB0 ⊢
 have hJ0:LJ [] H H0 H.size 0 0:=⟨fun _=>(none,0,0),fun _=>[],[],[],⟨⟨hB0,LRep.nil,LRep.nil,LRep.nil,LRep.nil,by simp,fun _ _ _ _ _=>Disj.nil_left _⟩,fp,fun y hy=>by
  rcases allF_mem hy with rfl | ⟨_,_,hy⟩
  ·exact .inr (Nat.le_refl _)
  ·simp at hy⟩,rfl,rfl,by simp,by simp⟩
 generalize hxb:H.size=xb at hJ0 ⊢
 refine ⟨fun w H'=>∃ n:Nat,w=[.int .i64 n]∧n≤2∧LJ [] H H' xb n 0,fun w _=>match w with
  | [.int _ i]=>(2-i).toNat
  | _=>0,⟨0,rfl,by omega,hJ0⟩,?_⟩
 rintro w H1 ⟨n,rfl,hn,hJ⟩ _
 refine ⟨_,rfl,condD (fun h2=>?_) fun h2=>?_⟩
 ·have e:IntKind.wrap .i64 ((n:Int)+1)=((n+1:Nat):Int):=by rw [wrap64_id (by omega) (by omega)];omega
  rw [e]
  obtain ⟨hd,Fs,zs,is,hB,hz,hi,hlz,hli⟩:=hJ
  have hT1:=hT.nil hB.up.1
  refine ⟨_,rfl,_,_,_,blkA hB.ls.blk 1 rfl,globals_r hT1.r hT1.v fun a l c G H2 ho f2 hG=>?_⟩
  have hB2:=hB.nil f2
  refine ⟨_,_,_,rfl,⟨⟨blkA hB2.ls.blk 1 rfl,trivial⟩,trivial⟩,⟨⟨blkA (hB2.ls.blk.push _) 1 rfl,trivial⟩,trivial⟩,?_⟩
  refine hB2.ls.snoc1 ho (hB.out hG) (by omega) fun h' F' H3 w1 L f g=>⟨_,_,_,rfl,trivial,_,rfl,w1,trivial,_,rfl,_,_,_,L.blk.cell 0,?_⟩
  have hB3:=hB2.step (by decide) L f g (hB.late hG)
  have hT3:=hT.nil hB3.up.1
  refine globals_k hT3.p hT3.v fun a2 l2 c2 G2 H4 ho2 f4 hG2=>?_
  have hB4:=hB3.nil f4
  refine ⟨_,_,_,rfl,⟨⟨hB4.ls.blk.cell 0,trivial⟩,trivial⟩,⟨⟨(hB4.ls.blk.push _).cell 0,trivial⟩,trivial⟩,?_⟩
  refine hB4.ls.snoc0 ho2 (hB3.out hG2) (by omega) fun h'' F'' H5 w2 L2 f5 g2=>⟨_,_,_,rfl,trivial,_,rfl,w2,trivial,⟨n+1,rfl,by omega,?_⟩,by simp;omega⟩
  exact ⟨_,_,_,_,hB4.step (by decide) L2 f5 g2 (hB3.late hG2),by simp [hz],hi,snoc_len hlz hgl,hli⟩
 obtain rfl:n=2:=by omega
 clear h2 hn
 have hT1:=hT.nil (by obtain ⟨_,_,_,_,hB,_⟩:=hJ;exact hB.up.1)
 refine all_r hT1.r hT1.v.ks fun al ll cl Gl H6 hol f6 hGl=>⟨_,_,_,rfl,?_⟩
 have hll:ll=v.cls.length:=by have:=hol.len;simpa [intsV,oopsK] using this.symm
 have hm1:=hT.v.ks.shape.many1
 obtain ⟨B,hJ6,hBlt,hBG,hBup⟩:∃ B,LJ B H6 H6 xb 2 0∧(∀ y∈B,H.size≤y)∧Disj Gl B∧Fr [] H H6:=by
  obtain ⟨hd,Fs,zs,is,hB,hz,hi,hlz,hli⟩:=hJ
  have hB6:=hB.nil f6
  refine ⟨allF xb Fs,⟨hd,Fs,zs,is,⟨hB6.ls,Up.refl _ _⟩,hz,hi,hlz,hli⟩,fun y hy=>?_,fun y hy hm=>?_,hB6.up.1⟩
  ·rcases hB.up.2 y hy with h1 | h1
   ·simp at h1
   ·exact h1
  ·rcases allF_mem hm with rfl | ⟨k,hk,hm⟩
   ·exact (hB.out hGl y hy).1 rfl
   ·exact (hB.out hGl y hy).2 k hk hm
 clear hJ
 have tw:∀ {H':Heap}{hd Fs zs ws is vs},LB B H6 H' xb hd Fs zs ws is vs→Tw H' bp br Fp Fq s t v:=fun hB=>(hT.nil hBup).fr hB.up.1 (fun y hy hm=>by have:=hT.p.lt y hy;have:=hBlt y hm;omega) (fun y hy hm=>by have:=hT.r.lt y hy;have:=hBlt y hm;omega) fun hm=>by have:=hT.glt;have:=hBlt _ hm;omega
 have up6:∀ {H':Heap}{hd Fs zs ws is vs},LB B H6 H' xb hd Fs zs ws is vs→LB [] H H' xb hd Fs zs ws is vs:=fun hB=>⟨hB.ls,(Up.fresh hBup hB.up hBlt).1,fun y hy=>.inr ((Up.fresh hBup hB.up hBlt).2 y hy)⟩
 refine ⟨fun w H'=>∃ i:Nat,w=[.int .i64 i]∧i≤ll∧LJ B H6 H' xb (2+4*i) (2*i),fun w _=>match w with
  | [.int _ i]=>((ll:Int)-i).toNat
  | _=>0,⟨0,rfl,by omega,hJ6⟩,?_⟩
 clear hJ6
 rintro w H7 ⟨i,rfl,hi,hJ⟩ _
 refine ⟨_,rfl,condD (fun hlt=>?_) fun hn=>?_⟩
 rotate_left
 ·obtain ⟨hd,Fs,zs,is,hB,hz,hi2,hlz,hli⟩:=hJ
  exact h _ _ _ _ ⟨hd,Fs,zs,is,up6 hB,hz,hi2,hlz,hli⟩ (by omega) (by omega)
 have e:IntKind.wrap .i64 ((i:Int)+1)=((i+1:Nat):Int):=by rw [wrap64_id (by omega) (by omega)];omega
 rw [e,Int.toNat_natCast]
 obtain ⟨p,hp,hc,_⟩:=hol.rd.int (i:=(i:Int)) (by omega) hlt
 rw [Int.toNat_natCast] at hc
 obtain ⟨bl,hbl,hpe⟩:∃ bl,bl∉B∧p=⟨bl,0,none⟩:=by
  rcases hol.2.2 with ⟨h1,_⟩ | ⟨bl,cs,h1,h2,_⟩
  ·rw [h1] at hp;cases hp
  ·rw [h1] at hp;cases hp
   exact ⟨bl,fun hm=>hBG bl (by rw [h2];simp) hm,rfl⟩
 subst hpe
 rw [add_none] at hc
 have hpl:=cell_lt' hc
 generalize (oopsK v).getD i 0=o at hc
 have rc:∀ {H':Heap}{hd Fs zs ws is vs},LB B H6 H' xb hd Fs zs ws is vs→cellH H' ((⟨bl,0,none⟩:Addr).add (i*1))=some (.int .i64 o):=fun hB=>by
  rw [Nat.mul_one,add_none,cell_fr hB.up.1 hbl hpl]
  exact hc
 have bd:((0:Int)≤(i:Int)∧(i:Int)<(ll:Int)):=⟨by omega,hlt⟩
 refine ⟨fun w H'=>∃ n:Nat,w=[.int .i64 n]∧n≤2∧LJ B H6 H' xb (2+4*i+n) (2*i),fun w _=>match w with
  | [.int _ i]=>(2-i).toNat
  | _=>0,⟨0,rfl,by omega,hJ⟩,?_⟩
 clear hJ
 rintro w H8 ⟨n,rfl,hn,hJ⟩ _
 refine ⟨_,rfl,condD (fun h2=>?_) fun h2=>?_⟩
 ·have e:IntKind.wrap .i64 ((n:Int)+1)=((n+1:Nat):Int):=by rw [wrap64_id (by omega) (by omega)];omega
  rw [e]
  obtain ⟨hd,Fs,zs,is,hB,hz,hi,hlz,hli⟩:=hJ
  refine ⟨bd,_,hp,_,rc hB,info_j (tw hB).r hT.v fun s1 s2 n1 e1 ab lb cb Gb H9 hob f9 hGb=>⟨_,_,_,_,_,_,_,rfl,?_⟩⟩
  have hB9:=hB.nil f9
  have fp1:=Fr.push [] H9 (.cells #[.string (⟨#[]⟩:ByteArray),.string (⟨#[]⟩:ByteArray),.slice none 0 0,.int .i64 0] 121)
  have hK1:=Blk.new H9 #[.string (⟨#[]⟩:ByteArray),.string (⟨#[]⟩:ByteArray),.slice none 0 0,.int .i64 0] 121
  generalize (H9.push (.cells #[.string (⟨#[]⟩:ByteArray),.string (⟨#[]⟩:ByteArray),.slice none 0 0,.int .i64 0] 121))=P1 at fp1 hK1 ⊢
  obtain ⟨w0,w1,w2,w3,hK2,hf2⟩:=st4 hK1 (o:=0) (by simp) (.string s1) (.string s2) (.slice ab lb cb) (.int .i64 n1)
  have F1:=(Up.fresh fp1 (F:=[H9.size]) (F':=[H9.size]) ⟨hf2,fun _ h=>.inl h⟩ (by simp)).1
  have hBA:=hB9.nil F1
  have hL1:Blk _ H9.size #[.string s1,.string s2,.slice ab lb cb,.int .i64 n1]:=hK2
  have hobA:=hob.fr F1 (by simp)
  have hltG:=hob.lt
  refine ⟨w0,w1,w2,w3,bd,_,hp,_,rc hBA,kinfo_j (tw hBA).p hT.v fun s3 s4 n3 e3 aa la ca Ga H10 hoa f10 hGa=>⟨_,_,_,_,_,_,_,rfl,?_⟩⟩
  have hB10:=hBA.nil f10
  have fp2:=Fr.push [] H10 (.cells #[.string (⟨#[]⟩:ByteArray),.string (⟨#[]⟩:ByteArray),.slice none 0 0,.int .i64 0] 121)
  have hK3:=Blk.new H10 #[.string (⟨#[]⟩:ByteArray),.string (⟨#[]⟩:ByteArray),.slice none 0 0,.int .i64 0] 121
  generalize (H10.push (.cells #[.string (⟨#[]⟩:ByteArray),.string (⟨#[]⟩:ByteArray),.slice none 0 0,.int .i64 0] 121))=P2 at fp2 hK3 ⊢
  obtain ⟨u0,u1,u2,u3,hK4,hf4⟩:=st4 hK3 (o:=0) (by simp) (.string s3) (.string s4) (.slice aa la ca) (.int .i64 n3)
  have F2:=(Up.fresh fp2 (F:=[H10.size]) (F':=[H10.size]) ⟨hf4,fun _ h=>.inl h⟩ (by simp)).1
  have hBB:=hB10.nil F2
  have hL2:Blk _ H10.size #[.string s3,.string s4,.slice aa la ca,.int .i64 n3]:=hK4
  have hL1B:=(hL1.fr f10 (by simp)).fr F2 (by simp)
  have hobB:=(hobA.fr f10 (by simp)).fr F2 (by simp)
  have hoaB:=hoa.fr F2 (by simp)
  have q9:=hL1.lt
  have q1:=F1.1
  have dab:Disj Gb Ga:=fun y hy hm=>by have:=hltG y hy;have:=hGa y hm;omega
  refine ⟨u0,u1,u2,u3,_,rfl,_,_,_,hBB.ls.blk.cell 0,_,_,_,blkA hL2 2 rfl,⟨⟨(hBB.ls.blk.push _).cell 0,trivial⟩,trivial⟩,?_⟩
  refine hBB.ls.snoc0 hoaB (hBA.out hGa) (by omega) fun h' F' H11 v1 L f g=>?_
  have hn9:H9.size∉xb :: Fs 0:=fun hm=>by
   rcases List.mem_cons.1 hm with h1 | h1
   ·have:=hB9.ls.blk.lt;omega
   ·have:=hB9.ls.lt 0 (by decide) _ h1;omega
  have hL1C:=hL1B.fr f hn9
  have hBC:=hBB.step (by decide) L f g (hBA.late hGa)
  refine ⟨_,_,_,rfl,trivial,_,rfl,v1,trivial,_,rfl,_,_,_,blkA L.blk 1 rfl,_,_,_,blkA hL1C 2 rfl,⟨⟨blkA (L.blk.push _) 1 rfl,trivial⟩,trivial⟩,?_⟩
  have ob:=hB.out hGb
  have hobC:=hobB.fr f fun y hy hm=>by
   rcases List.mem_cons.1 hm with h1 | h1
   ·exact (ob y hy).1 h1
   ·exact (ob y hy).2 0 (by decide) h1
  refine L.snoc1 hobC (fun y hy=>⟨(ob y hy).1,fun k hk=>?_⟩) (by omega) fun h'' F'' H12 v2 L2 f12 g2=>⟨_,_,_,rfl,trivial,_,rfl,v2,trivial,⟨n+1,rfl,by omega,?_⟩,by simp;omega⟩
  ·by_cases ek:k=0
   ·rw [ek,upd_eq]
    intro hm
    rcases g y hm with h1 | h1 | h1
    ·exact (ob y hy).2 0 (by decide) h1
    ·exact dab y hy h1
    ·have:=hobB.lt y hy;omega
   ·rw [upd_ne _ _ ek];exact (ob y hy).2 k hk
  ·exact ⟨_,_,_,_,hBC.step (by decide) L2 f12 g2 (hB.late hGb),by simp [hz];omega,hi,snoc_len hlz (ownJ_len hT.v o),hli⟩
 obtain rfl:n=2:=by omega
 clear h2 hn
 refine ⟨fun w H'=>∃ n:Nat,w=[.int .i64 n]∧n≤2∧LJ B H6 H' xb (2+4*i+2+n) (2*i),fun w _=>match w with
  | [.int _ i]=>(2-i).toNat
  | _=>0,⟨0,rfl,by omega,hJ⟩,?_⟩
 clear hJ
 rintro w H13 ⟨n,rfl,hn,hJ⟩ _
 refine ⟨_,rfl,condD (fun h2=>?_) fun h2=>?_⟩
 ·have e:IntKind.wrap .i64 ((n:Int)+1)=((n+1:Nat):Int):=by rw [wrap64_id (by omega) (by omega)];omega
  rw [e]
  obtain ⟨hd,Fs,zs,is,hB,hz,hi,hlz,hli⟩:=hJ
  refine ⟨bd,_,hp,_,rc hB,fields_j (tw hB).r hT.v fun e1 ab lb cb Gb H14 hob f14 hGb=>⟨_,_,_,_,rfl,?_⟩⟩
  have hBA:=hB.nil f14
  have hltG:=hob.lt
  refine ⟨bd,_,hp,_,rc hBA,kfields_j (tw hBA).p hT.v fun e3 aa la ca Ga H15 hoa f15 hGa=>⟨_,_,_,_,rfl,?_⟩⟩
  have hBB:=hBA.nil f15
  have hobB:=hob.fr f15 (by simp)
  have dab:Disj Gb Ga:=fun y hy hm=>by have:=hltG y hy;have:=hGa y hm;omega
  refine ⟨_,rfl,_,_,_,hBB.ls.blk.cell 0,?_⟩
  refine hBB.ls.snoc0 hoa (hBA.out hGa) (by omega) fun h' F' H16 v1 L f g=>⟨_,_,_,rfl,_,rfl,v1,_,rfl,_,_,_,blkA L.blk 1 rfl,?_⟩
  have hBC:=hBB.step (by decide) L f g (hBA.late hGa)
  have ob:=hB.out hGb
  have hobC:=hobB.fr f fun y hy hm=>by
   rcases List.mem_cons.1 hm with h1 | h1
   ·exact (ob y hy).1 h1
   ·exact (ob y hy).2 0 (by decide) h1
  refine L.snoc1 hobC (fun y hy=>⟨(ob y hy).1,fun k hk=>?_⟩) (by omega) fun h'' F'' H17 v2 L2 f17 g2=>⟨_,_,_,rfl,_,rfl,v2,⟨n+1,rfl,by omega,?_⟩,by simp;omega⟩
  ·by_cases ek:k=0
   ·rw [ek,upd_eq]
    intro hm
    rcases g y hm with h1 | h1 | h1
    ·exact (ob y hy).2 0 (by decide) h1
    ·exact dab y hy h1
    ·have:=hobB.lt y hy;omega
   ·rw [upd_ne _ _ ek];exact (ob y hy).2 k hk
  ·exact ⟨_,_,_,_,hBC.step (by decide) L2 f17 g2 (hB.late hGb),by simp [hz];omega,hi,snoc_len hlz (fldJ_len hT.v o),hli⟩
 obtain rfl:n=2:=by omega
 clear h2 hn
 refine ⟨fun w H'=>∃ n:Nat,w=[.int .i64 n]∧n≤2∧LJ B H6 H' xb (2+4*i+2+2) (2*i+n),fun w _=>match w with
  | [.int _ i]=>(2-i).toNat
  | _=>0,⟨0,rfl,by omega,hJ⟩,?_⟩
 clear hJ
 rintro w H18 ⟨n,rfl,hn,hJ⟩ _
 refine ⟨_,rfl,condD (fun h2=>?_) fun h2=>?_⟩
 ·have e:IntKind.wrap .i64 ((n:Int)+1)=((n+1:Nat):Int):=by rw [wrap64_id (by omega) (by omega)];omega
  rw [e]
  obtain ⟨hd,Fs,zs,is,hB,hz,hi,hlz,hli⟩:=hJ
  refine ⟨_,rfl,_,_,_,blkA hB.ls.blk 3 rfl,bd,_,hp,_,rc hB,under_j (tw hB).r hT.v fun a l c G H19 ho f19 hG=>?_⟩
  have hB2:=hB.nil f19
  refine ⟨_,_,_,rfl,⟨⟨blkA hB2.ls.blk 3 rfl,trivial⟩,trivial⟩,⟨⟨blkA (hB2.ls.blk.push _) 3 rfl,trivial⟩,trivial⟩,?_⟩
  refine hB2.ls.snoc3 ho (hB.out hG) (by omega) fun h' F' H20 w1 L f g=>?_
  have hB3:=hB2.step (by decide) L f g (hB.late hG)
  refine ⟨_,_,_,rfl,trivial,_,rfl,w1,trivial,_,rfl,_,_,_,blkA L.blk 2 rfl,bd,_,hp,_,rc hB3,?_⟩
  refine kunder_j (tw hB3).p hT.v fun a2 l2 c2 G2 H21 ho2 f21 hG2=>?_
  have hB4:=hB3.nil f21
  refine ⟨_,_,_,rfl,⟨⟨blkA hB4.ls.blk 2 rfl,trivial⟩,trivial⟩,⟨⟨blkA (hB4.ls.blk.push _) 2 rfl,trivial⟩,trivial⟩,?_⟩
  refine hB4.ls.snoc2 ho2 (hB3.out hG2) (by omega) fun h'' F'' H22 w2 L2 f22 g2=>⟨_,_,_,rfl,trivial,_,rfl,w2,trivial,⟨n+1,rfl,by omega,?_⟩,by simp;omega⟩
  exact ⟨_,_,_,_,hB4.step (by decide) L2 f22 g2 (hB3.late hG2),hz,by simp [hi];omega,hlz,snoc_len hli (undJ_len hT.v o)⟩
 obtain rfl:n=2:=by omega
 refine ⟨⟨i+1,rfl,by omega,?_⟩,by simp;omega⟩
 rw [show 2+4*(i+1)=2+4*i+2+2 from by omega,show 2*(i+1)=2*i+2 from by omega]
 exact hJ
end
theorem Own.pre {k:Nat}{H:Heap}{a:Option Addr}{l m c:Nat}{xs ys:List Value}{F:Foot} (h:Own k H a (l+m) c (xs++ys) F) (hx:xs.length=l*k):Own k H a l c xs F:=by
 refine ⟨hx,by have:=h.2.1;omega,h.2.2.imp id ?_⟩
 rintro ⟨b,cs,h1,h2,h3,h4,h5⟩
 refine ⟨b,cs,h1,h2,h3,h4,?_⟩
 have h6:(cs.toList.take ((l+m)*k)).take (l*k)=(xs++ys).take (l*k):=by rw [h5]
 rw [List.take_take,Nat.min_eq_left (Nat.mul_le_mul_right k (by omega))] at h6
 rw [h6,List.take_append_of_le_length (by omega)]
 exact List.take_of_length_le (by omega)
theorem evS_append1_at {P:Program}{T T' T0 k bs:Nat}{z:Value}{H:Heap}{a:Option Addr}{l c:Nat}{xs:List Value}{ys:Array Value}{e0:TypeId}{F:Foot}{Q:QT} (hs:sliceInfo P T=some (k,bs,some z)) (hz:z.cells.size=k) (hT:notInt P T'=true)
  (ho:Own k H a l c xs F) (hy:ys.size=k) (hone:∀ v∈ys.toList,oneC v=true) (hl:l<274877906944) (hbs:bs≤128) (hbs0:bs≠0)
  (h:∀ a' c' F' H',Own k H' a' (l+1) c' (xs++ys.toList) F'→((a'=a∧c'=c∧F'=F)∧Fr F H H'∨(∀ b∈F',H.size≤b)∧Fr [] H H')→Q (.slice a' (l+1) c') H') :
  evS P (Builtin.append_ #[T,T'] T0 #[.slice a l c,.slice (some ⟨H.size,0,none⟩) 1 1]) Q (H.push (.cells ys e0)):=by
 have hcp:∀ c,c<l+1→Builtin.nextslicecap (l+1) c*bs≤281474976710656:=fun c hc=>by
  have hlE:l+1≤274877906944:=hl
  have:=Kw.nextslicecap_le hc
  have h3:Builtin.nextslicecap (l+1) c*bs≤(2*(l+1)+512)*128:=Nat.mul_le_mul this hbs
  exact Nat.le_trans h3 (Nat.le_trans (Nat.mul_le_mul_right 128 (Nat.add_le_add_right (Nat.mul_le_mul_left 2 hlE) 512)) (by decide))
 have hpu:=Fr.push [] H (.cells ys e0)
 have hr:Rd k (H.push (.cells ys e0)) (some ⟨H.size,0,none⟩) 1 ys.toList:=⟨by simp [hy],by simp,fun p hp i hi=>by
  cases hp
  rw [add_none,Nat.zero_add,(Blk.new H ys e0).cell]
  simp⟩
 have ho0:=ho
 replace ho:=ho.fr hpu (by simp)
 obtain ⟨e,i,hu,hi,hk,hb,hz0⟩:=sliceInfo_elim hs
 obtain ⟨d,hd,hd'⟩:∃ d,P.underlying T'=some (.slice d)∧True:=by
  unfold notInt at hT
  split at hT
  ·rename_i d hd;exact ⟨d,hd,trivial⟩
  ·cases hT
 show evS P (do
  let .slice elem ← underlying T | stuck "append: slice type expected"
  _) Q _
 refine evS_bind' (evS_underlying hu ?_)
 refine evS_bind' (evS_sizeOf hi ?_)
 rw [hk]
 refine evS_bind' (evS_bind' (evS_underlying hd ?_))
 simp only [pure,List.getElem_toArray,List.getElem_cons_succ,List.getElem_cons_zero]
 refine evS_bind' (evS_pure ?_)
 simp only [Bool.false_eq_true,if_false,Bool.not_false,if_true]
 refine evS_bind' (show evS P (Builtin.lenOf (.slice (some ⟨H.size,0,none⟩) 1 1)) _ _ from ?_)
 refine evS_pure ?_
 have hys:ys.toList.take (1*k)=ys.toList:=List.take_of_length_le (by simp [hy])
 by_cases hfit:l+1≤c
 ·simp only [hfit,if_true]
  refine evS_bind' (evS_firstCells hr (Nat.le_refl _) ?_)
  rw [hys]
  rcases ho.2.2 with ⟨rfl,hc0,rfl⟩ | ⟨b,cs,rfl,rfl,⟨t,hB⟩,hsz,htk⟩
  ·omega
  ·dsimp only
   rw [add_none,Nat.zero_add]
   refine evS_bind' ?_
   have hroom:l*k+0+ys.toList.length≤cs.size:=by rw [hr.1,hsz,Nat.add_zero,←Nat.add_mul];exact Nat.mul_le_mul_right k hfit
   refine evS_storeCells ys.toList (l*k) 0 cs hone hB hroom fun H' g1 g2 g3=>?_
   have hsz2:(H.push (.cells ys e0)).size=H.size+1:=by simp
   refine h _ _ [b] H' ⟨by rw [List.length_append,ho.1,hr.1,Nat.add_mul],hfit,.inr ⟨b,_,rfl,rfl,⟨t,g1⟩,?_,?_⟩⟩ (.inl ⟨⟨rfl,rfl,rfl⟩,by omega,fun b' hb' hn=>?_⟩)
   ·simp only [splice,List.size_toArray,List.length_append,List.length_take,List.length_drop,Array.length_toList]
    have:=hr.1
    simp only [Array.length_toList] at this hroom
    omega
   ·simp only [splice,Nat.add_zero]
    have e1:cs.toList.take (l*k)++ys.toList=xs++ys.toList:=by rw [htk]
    rw [e1,List.take_append_of_le_length (by rw [List.length_append,ho.1,hr.1,Nat.add_mul];exact Nat.le_refl _)]
    exact List.take_of_length_le (by rw [List.length_append,ho.1,hr.1,Nat.add_mul];exact Nat.le_refl _)
   ·rw [g3 b' (by simpa using hn)]
    exact hpu.2 b' hb' (by simp)
 ·simp only [hfit,if_false]
  have hneed:¬ (((l+1:Nat):Int) > IntKind.i64.max∧(False∨i.bytes=0)):=by
   rintro ⟨_,h | h⟩
   ·exact h
   ·rw [hb] at h;exact hbs0 h
  refine evS_bind' (evS_typeInfo hi ?_)
  simp only [hneed,if_false]
  refine evS_bind' (evS_typeInfo hi ?_)
  have hcap:¬ Builtin.nextslicecap (l+1) c*i.bytes > 2 ^ 48:=by
   rw [hb]
   have:=hcp c (by omega)
   omega
  simp only [hcap,if_false]
  refine evS_bind' ?_
  simp only [choose,evS,Question.forced,Bool.false_eq_true,if_false]
  intro t
  have hcut:l+1≤Question.cut (.appendCap (l+1) c e) t:=by simp only [Question.cut];omega
  generalize Question.cut (.appendCap (l+1) c e) t=cap' at hcut
  refine evS_bind' (evS_typeInfo hi ?_)
  refine evS_bind' (evS_askRoom ?_)
  refine evS_bind' (evS_firstCells (ho.rd) (Nat.le_refl _) ?_)
  refine evS_bind' (evS_firstCells hr (Nat.le_refl _) ?_)
  refine evS_bind' (evS_zeroValue hi hz0 ?_)
  have hxs:xs.take (l*k)=xs:=List.take_of_length_le (by rw [ho.1];exact Nat.le_refl _)
  rw [hxs,hys]
  simp only [newRow,newObj,bind,Sem.bind,pure,evS]
  refine h _ _ [(H.push (.cells ys e0)).size] _ ⟨by rw [List.length_append,ho.1,hr.1,Nat.add_mul],hcut,.inr ⟨_,_,rfl,rfl,Blk.new _ _ _,?_,?_⟩⟩ (.inr ⟨fun b' hb'=>by simp at hb';omega,hpu.trans (Fr.push _ _ _)⟩)
  ·simp only [Array.size_append,List.size_toArray,Builtin.zeroCells,Array.size_map,Array.size_range,hz]
   rw [ho.1,hr.1,←Nat.add_mul,←Nat.add_mul]
   congr 1
   omega
  ·simp only [Array.toList_append,List.append_assoc]
   rw [←List.append_assoc,List.take_append_of_le_length (by rw [List.length_append,ho.1,hr.1,Nat.add_mul];exact Nat.le_refl _)]
   exact List.take_of_length_le (by rw [List.length_append,ho.1,hr.1,Nat.add_mul];exact Nat.le_refl _)
structure Grown (H1 H':Heap) (h:Hd) (F:Foot) (xs ys:List Value) (a:Option Addr) (c:Nat) (G:Foot):Prop where
 old:Own 1 H' h.1 h.2.1 h.2.2 xs F
 new:Own 1 H' a (h.2.1+ys.length) c (xs++ys) G
 up:Up F H1 G H'
 at_:(a=h.1∧c=h.2.2∧G=F)∨∀ b∈G,b∉F
theorem Grown.start {H:Heap}{h:Hd}{F:Foot}{xs:List Value} (ho:Own 1 H h.1 h.2.1 h.2.2 xs F):Grown H H h F xs [] h.1 h.2.2 F:=⟨ho,by simpa using ho,Up.refl _ _,.inl ⟨rfl,rfl,rfl⟩⟩
theorem Grown.nil {H1 H' H2:Heap}{h:Hd}{F:Foot}{xs ys:List Value}{a:Option Addr}{c:Nat}{G:Foot} (g:Grown H1 H' h F xs ys a c G) (f:Fr [] H' H2):Grown H1 H2 h F xs ys a c G :=
 ⟨g.old.fr f (by simp),g.new.fr f (by simp),g.up.trans (Up.of_nil f),g.at_⟩
theorem Grown.app {P:Program}{T T' T0 bs:Nat}{z v:Value}{e0:TypeId}{Q:QT}{H1 H':Heap}{h:Hd}{F:Foot}{xs ys:List Value}{a:Option Addr}{l c:Nat}{G:Foot} (g:Grown H1 H' h F xs ys a c G) (hl0:l=h.2.1+ys.length)
  (hs:sliceInfo P T=some (1,bs,some z)) (hz:z.cells.size=1) (hT:notInt P T'=true) (hone:oneC v=true) (hl:l<274877906944) (hbs:bs≤128) (hbs0:bs≠0)
  (hq:∀ a' c' G' H2,Grown H1 H2 h F xs (ys++[v]) a' c' G'→Q (.slice a' (l+1) c') H2) :
  evS P (Builtin.append_ #[T,T'] T0 #[.slice a l c,.slice (some ⟨H'.size,0,none⟩) 1 1]) Q (H'.push (.cells #[v] e0)):=by
 subst hl0
 refine evS_append1_at hs hz hT g.new rfl (by simpa using hone) hl hbs hbs0 fun a' c' G' H2 ho hcase=>hq a' c' G' H2 ?_
 have hFl:=g.old.lt
 have hF1:∀ b∈F,b<H'.size:=hFl
 have e:xs++ys++[v]=xs++(ys++[v]):=List.append_assoc _ _ _
 have ho':Own 1 H2 a' (h.2.1+(ys++[v]).length) c' (xs++(ys++[v])) G':=by
  rw [←e,List.length_append,List.length_singleton,←Nat.add_assoc];exact ho
 have hxl:xs.length=h.2.1*1:=g.old.1
 rcases hcase with ⟨⟨rfl,rfl,rfl⟩,f⟩ | ⟨hn,f⟩
 ·refine ⟨?_,ho',⟨?_,g.up.2⟩,g.at_⟩
  ·rcases g.at_ with ⟨rfl,rfl,rfl⟩ | hd
   ·exact Own.pre ho' hxl
   ·exact g.old.fr f fun b hb hm=>hd b hm hb
  ·refine ⟨Nat.le_trans g.up.1.1 f.1,fun b hb hn=>?_⟩
   rw [f.2 b (Nat.lt_of_lt_of_le hb g.up.1.1) (fun hm=>by
    rcases g.up.2 b hm with h1 | h1
    ·exact hn h1
    ·omega),g.up.1.2 b hb hn]
 ·refine ⟨g.old.fr f (by simp),ho',⟨g.up.1.trans (Fr.of_nil f),fun b hb=>.inr (Nat.le_trans g.up.1.1 (hn b hb))⟩,.inr fun b hb hm=>by have:=hF1 b hm;have:=hn b hb;omega⟩
def RV {α:Type} (V:α→List Value):RepT α:=fun H ys x F=>∃ a l c,ys=[.slice a l c]∧Own 1 H a l c (V x) F
theorem SRep.parts {α:Type}{V:α→List Value}{H:Heap}{xs:List Value}{zs:List α}{F:Foot} (h:SRep 1 (RV V) H xs zs F):∃(hs:Nat→Hd) (fs:Nat→Foot),xs=(List.range zs.length).map (fun i=>hdV (hs i)) ∧
  (∀ i x,zs[i]?=some x→Own 1 H (hs i).1 (hs i).2.1 (hs i).2.2 (V x) (fs i)∧∀ b∈fs i,b∈F)∧∀ i j,i<zs.length→j<zs.length→i≠j→Disj (fs i) (fs j):=by
 induction h with
 | nil=>exact ⟨fun _=>(none,0,0),fun _=>[],rfl,fun i x hx=>by simp at hx,fun i j hi=>by simp at hi⟩
 | @cons ys xs x l F G h1 h2 h3 h4 ih =>
  obtain ⟨a,n,c,rfl,ho⟩:=h1
  obtain ⟨hs,fs,e,g1,g2⟩:=ih
  have sub:∀ i,i<l.length→∀ b∈fs i,b∈G:=fun i hi=>(g1 i l[i] (List.getElem?_eq_getElem hi)).2
  refine ⟨fun i=>match i with | 0=>(a,n,c) | i+1=>hs i,fun i=>match i with | 0=>F | i+1=>fs i,?_,fun i y hy=>?_,fun i j hi hj hij=>?_⟩
  ·rw [e,List.length_cons,List.range_succ_eq_map,List.map_cons,List.map_map];rfl
  ·cases i with
   | zero=>simp at hy;subst hy;exact ⟨ho,fun b hb=>by simp [hb]⟩
   | succ i=>have:=g1 i y (by simpa using hy);exact ⟨this.1,fun b hb=>by have:=this.2 b hb;simp [this]⟩
  ·cases i with
   | zero=>cases j with
    | zero=>exact absurd rfl hij
    | succ j=>exact fun b hb hm=>h4 b hb (sub j (by simpa using hj) b hm)
   | succ i=>cases j with
    | zero=>exact fun b hb hm=>h4 b hm (sub i (by simpa using hi) b hb)
    | succ j=>exact g2 i j (by simpa using hi) (by simpa using hj) (by omega)
theorem LRep.parts {α:Type}{V:α→List Value}{H:Heap}{a:Option Addr}{l c:Nat}{zs:List α}{F:Foot} (h:LRep 1 (RV V) H a l c zs F):∃(F1 F2:Foot) (hs:Nat→Hd) (fs:Nat→Foot),(∀ b∈F1,b∈F)∧(∀ b∈F2,b∈F)∧Disj F2 F1∧(∀ b∈F2,b<H.size) ∧
  (∀ i,i<l→∃ b,a=some ⟨b,0,none⟩∧b∈F1∧cellH H ⟨b,i,none⟩=some (hdV (hs i)))∧(∀ i x,zs[i]?=some x→Own 1 H (hs i).1 (hs i).2.1 (hs i).2.2 (V x) (fs i)∧∀ b∈fs i,b∈F2)∧∀ i j,i<zs.length→j<zs.length→i≠j→Disj (fs i) (fs j):=by
 obtain ⟨xs,F1,F2,h1,h2,h3,rfl,h5⟩:=h
 have hlt:∀ b∈F2,b<H.size:=h2.lt fun H ys x F ⟨a,l,c,e,h⟩=>h.lt
 obtain ⟨hs,fs,e,g1,g2⟩:=SRep.parts h2
 refine ⟨F1,F2,hs,fs,fun b hb=>by simp [hb],fun b hb=>by simp [hb],h3.symm,hlt,fun i hi=>?_,g1,g2⟩
 rcases h1.2.2 with ⟨rfl,h6,_⟩ | ⟨b,cs,rfl,rfl,_⟩
 ·have:=h1.2.1;omega
 ·refine ⟨b,rfl,by simp,?_⟩
  have:=h1.rd.2.2 _ rfl i (by omega)
  rw [add_none,Nat.zero_add,e] at this
  rw [this]
  simp [List.getElem?_range (show i<zs.length by omega)]
def sel:Bool→Nat
 | false=>0
 | true=>2
def updX (xs:Bool→Nat→List Value) (c:Bool) (i:Nat) (y:List Value):Bool→Nat→List Value:=fun c' j=>if c'=c∧j=i then y else xs c' j
theorem updX_eq (xs:Bool→Nat→List Value) (c:Bool) (i:Nat) (y:List Value):updX xs c i y c i=y:=by simp [updX]
theorem updX_ne (xs:Bool→Nat→List Value){c c':Bool}{i j:Nat} (y:List Value) (h:c'≠c∨j≠i):updX xs c i y c' j=xs c' j:=by
 unfold updX
 rw [if_neg]
 rintro ⟨h1,h2⟩
 rcases h with h | h
 ·exact h h1
 ·exact h h2
structure AP (H:Heap) (xb:Nat) (hd:Nat→Hd) (K:Foot) (U:Bool→Foot) (hs:Bool→Nat→Hd) (fs:Bool→Nat→Foot) (xs:Bool→Nat→List Value):Prop where
 blk:Blk H xb #[hdV (hd 0),hdV (hd 1),hdV (hd 2),hdV (hd 3)]
 xk:xb∈K
 ltK:∀ b∈K,b<H.size
 ltU:∀ c,∀ b∈U c,b<H.size
 dUK:∀ c,Disj (U c) K
 dUU:∀ c c',c≠c'→Disj (U c) (U c')
 sub:∀ c i,i<(hd (sel c)).2.1→∀ b∈fs c i,b∈U c
 dis:∀ c i j,i<(hd (sel c)).2.1→j<(hd (sel c)).2.1→i≠j→Disj (fs c i) (fs c j)
 cell:∀ c i,i<(hd (sel c)).2.1→∃ b,(hd (sel c)).1=some ⟨b,0,none⟩∧b∈K∧cellH H ⟨b,i,none⟩=some (hdV (hs c i))
 own:∀ c i,i<(hd (sel c)).2.1→Own 1 H (hs c i).1 (hs c i).2.1 (hs c i).2.2 (xs c i) (fs c i)
 bnd:∀ c i,i<(hd (sel c)).2.1→(hs c i).2.1≤100000000
section
variable {H H':Heap}{xb:Nat}{hd:Nat→Hd}{K:Foot}{U:Bool→Foot}{hs:Bool→Nat→Hd}{fs:Bool→Nat→Foot}{xs:Bool→Nat→List Value}
theorem AP.keep (h:AP H xb hd K U hs fs xs){G:Foot} (f:Fr G H H') (hK:∀ b∈G,b∉K) (hU:∀ c,∀ b∈G,b∉U c):AP H' xb hd K U hs fs xs :=
 ⟨h.blk.fr f fun hm=>hK _ hm h.xk,h.xk,fun b hb=>Nat.lt_of_lt_of_le (h.ltK b hb) f.1,fun c b hb=>Nat.lt_of_lt_of_le (h.ltU c b hb) f.1,h.dUK,h.dUU,h.sub,h.dis,fun c i hi=>by
  obtain ⟨b,h1,h2,h3⟩:=h.cell c i hi
  exact ⟨b,h1,h2,by rw [cell_fr f (fun hm=>hK _ hm h2) (h.ltK b h2)];exact h3⟩,fun c i hi=>(h.own c i hi).fr f fun b hb hm=>hU c b hm (h.sub c i hi b hb),h.bnd⟩
theorem AP.nil (h:AP H xb hd K U hs fs xs) (f:Fr [] H H'):AP H' xb hd K U hs fs xs:=h.keep f (by simp) (by simp)
theorem AP.set (h:AP H xb hd K U hs fs xs){c:Bool}{i:Nat} (hi:i<(hd (sel c)).2.1) (f:Fr (fs c i) H H'){y:List Value} (ho:Own 1 H' (hs c i).1 (hs c i).2.1 (hs c i).2.2 y (fs c i)):AP H' xb hd K U hs fs (updX xs c i y):=by
 have nk:∀ b∈fs c i,b∉K:=fun b hb=>h.dUK c b (h.sub c i hi b hb)
 refine ⟨h.blk.fr f fun hm=>nk _ hm h.xk,h.xk,fun b hb=>Nat.lt_of_lt_of_le (h.ltK b hb) f.1,fun c b hb=>Nat.lt_of_lt_of_le (h.ltU c b hb) f.1,h.dUK,h.dUU,h.sub,h.dis,fun c' j hj=>?_,fun c' j hj=>?_,h.bnd⟩
 ·obtain ⟨b,h1,h2,h3⟩:=h.cell c' j hj
  exact ⟨b,h1,h2,by rw [cell_fr f (fun hm=>nk _ hm h2) (h.ltK b h2)];exact h3⟩
 ·by_cases e:c'=c∧j=i
  ·obtain ⟨rfl,rfl⟩:=e
   rw [updX_eq];exact ho
  ·have e2:c'≠c∨j≠i:=by
    by_cases e3:c'=c
    ·exact .inr fun e4=>e ⟨e3,e4⟩
    ·exact .inl e3
   rw [updX_ne _ _ e2]
   refine (h.own c' j hj).fr f fun b hb hm=>?_
   by_cases e3:c'=c
   ·subst e3
    exact h.dis c' j i hj hi (by rcases e2 with e2 | e2;exact absurd rfl e2;exact e2) b hb hm
   ·exact h.dUU c' c e3 b (h.sub c' j hj b hb) (h.sub c i hi b hm)
theorem AP.head (h:AP H xb hd K U hs fs xs){c:Bool}{b i:Nat} (hb:(hd (sel c)).1=some ⟨b,0,none⟩) (hi:i<(hd (sel c)).2.1):cellH H ((⟨b,0,none⟩:Addr).add (i*1))=some (hdV (hs c i)):=by
 obtain ⟨b',h1,_,h3⟩:=h.cell c i hi
 rw [hb] at h1
 cases h1
 rw [Nat.mul_one,add_none,Nat.zero_add]
 exact h3
theorem AP.same (h:AP H xb hd K U hs fs xs){c:Bool}{i:Nat}:updX xs c i (xs c i)=xs:=by
 funext c' j
 unfold updX
 split
 ·rename_i e;rw [e.1,e.2]
 ·rfl
theorem Own.put {a:Option Addr}{l c:Nat}{ys:List Value}{F:Foot} (ho:Own 1 H a l c ys F){i:Nat} (hi:i<l) (v:Value):∃ b,a=some ⟨b,0,none⟩∧Wr H ⟨b,i,none⟩∧Fr F H (setH H ⟨b,i,none⟩ v)∧Own 1 (setH H ⟨b,i,none⟩ v) a l c (ys.set i v) F:=by
 have hlc:=ho.2.1
 rcases ho.2.2 with ⟨_,h2,_⟩ | ⟨b,cs,rfl,rfl,hb,hsz,htk⟩
 ·omega
 ·refine ⟨b,rfl,hb.wr (by omega),Fr.set (by simp),⟨by rw [List.length_set];exact ho.1,hlc,.inr ⟨b,_,rfl,rfl,hb.set i v,by simpa using hsz,?_⟩⟩⟩
  rw [←htk]
  simp [List.take_set]
structure More (H:Heap) (a:Option Addr) (l:Nat) (hm:Nat→Hd) (ys:Nat→List Value) (KM:Foot):Prop where
 cell:∀ j,j<l→∃ b,a=some ⟨b,0,none⟩∧b∈KM∧cellH H ⟨b,j,none⟩=some (hdV (hm j))
 rd:∀ j,j<l→Rd 1 H (hm j).1 (hm j).2.1 (ys j)∧∀ p,(hm j).1=some p→p.block∈KM
theorem More.fr {a:Option Addr}{l:Nat}{hm:Nat→Hd}{ys:Nat→List Value}{KM G:Foot} (h:More H a l hm ys KM) (f:Fr G H H') (hd:Disj KM G):More H' a l hm ys KM :=
 ⟨fun j hj=>by
  obtain ⟨b,h1,h2,h3⟩:=h.cell j hj
  exact ⟨b,h1,h2,by rw [cell_fr f (fun hm=>hd b h2 hm) (cell_lt h3)];exact h3⟩,fun j hj=>⟨(h.rd j hj).1.fr' f fun p hp hm=>hd _ ((h.rd j hj).2 p hp) hm,(h.rd j hj).2⟩⟩
theorem More.nil {a:Option Addr}{l:Nat}{hm:Nat→Hd}{ys:Nat→List Value}{KM:Foot} (h:More H a l hm ys KM) (f:Fr [] H H'):More H' a l hm ys KM:=h.fr f (Disj.nil_right _)
theorem More.head {a:Option Addr}{l:Nat}{hm:Nat→Hd}{ys:Nat→List Value}{KM:Foot} (h:More H a l hm ys KM){b j:Nat} (hb:a=some ⟨b,0,none⟩) (hj:j<l):cellH H ((⟨b,0,none⟩:Addr).add (j*1))=some (hdV (hm j)):=by
 obtain ⟨b',h1,_,h3⟩:=h.cell j hj
 rw [hb] at h1
 cases h1
 rw [Nat.mul_one,add_none,Nat.zero_add]
 exact h3
structure PH (H0 H:Heap) (xb:Nat) (hd:Nat→Hd) (K:Foot) (U:Bool→Foot) (hs:Bool→Nat→Hd) (fs:Bool→Nat→Foot) (xs:Bool→Nat→List Value) (c:Bool) (g:Nat→Value) (i:Nat) (a:Option Addr) (cc:Nat):Prop where
 ap:AP H xb hd K U hs fs xs
 fr:Fr (U c) H0 H
 mo:∃(hm:Nat→Hd) (fm:Nat→Foot) (GT:Foot),Own 1 H a i cc ((List.range i).map fun j=>hdV (hm j)) GT∧(∀ b∈GT,H0.size≤b)∧∀ j,j<i→Own 1 H (hm j).1 (hm j).2.1 (hm j).2.2 (xs c j++List.replicate 41 (g j)) (fm j)∧(∀ b∈fm j,b∈fs c j∨H0.size≤b)∧Disj (fm j) GT
theorem PH.start (h:AP H xb hd K U hs fs xs) (c:Bool) (g:Nat→Value):PH H H xb hd K U hs fs xs c g 0 none 0:=⟨h,Fr.refl _ _,fun _=>(none,0,0),fun _=>[],[],Own.nil 1 H,by simp,fun j hj=>by omega⟩
theorem PH.app {P:Program}{T T' T0 bs:Nat}{z:Value}{e0:TypeId}{Q:QT}{H0:Heap}{c:Bool}{g:Nat→Value}{i cc:Nat}{a:Option Addr} (h0:AP H0 xb hd K U hs fs (fun _ _=>[])∨((∀ b∈K,b<H0.size)∧∀ c,∀ b∈U c,b<H0.size))
  (h:PH H0 H xb hd K U hs fs xs c g i a cc) (hi:i<(hd (sel c)).2.1){a2:Option Addr}{l2 c2:Nat}{GL:Foot} (gr:Grown H H' (hs c i) (fs c i) (xs c i) (List.replicate 41 (g i)) a2 c2 GL) (hl2:l2=(hs c i).2.1+41)
  (hs1:sliceInfo P T=some (1,bs,some z)) (hz:z.cells.size=1) (hT:notInt P T'=true) (hl:i<274877906944) (hbs:bs≤128) (hbs0:bs≠0)
  (hq:∀ a' c' H2,PH H0 H2 xb hd K U hs fs xs c g (i+1) a' c'→Q (.slice a' (i+1) c') H2) :
  evS P (Builtin.append_ #[T,T'] T0 #[.slice a i cc,.slice (some ⟨H'.size,0,none⟩) 1 1]) Q (H'.push (.cells #[.slice a2 l2 c2] e0)):=by
 have hlt:(∀ b∈K,b<H0.size)∧∀ c,∀ b∈U c,b<H0.size:=by
  rcases h0 with h0 | h0
  ·exact ⟨h0.ltK,h0.ltU⟩
  ·exact h0
 obtain ⟨hm,fm,GT,ho,hG,hj⟩:=h.mo
 have hs0:=h.fr.1
 have hs2:=gr.up.1.1
 have subU:∀ b∈fs c i,b∈U c:=h.ap.sub c i hi
 have fsub:∀ b∈fs c i,b<H0.size:=fun b hb=>hlt.2 c b (subU b hb)
 have hltG:=ho.lt
 have ho':=ho.fr gr.up.1 fun b hb hm=>by have:=hG b hb;have:=fsub b hm;omega
 have ap':AP H' xb hd K U hs fs xs:=by
  have:=h.ap.set hi gr.up.1 gr.old
  rw [h.ap.same] at this
  exact this
 refine evS_append1 hs1 hz hT ho' rfl (by simp [oneC]) hl hbs hbs0 fun a' c' GT' H2 hoN hu hltN=>hq a' c' H2 ?_
 have hGT':∀ b∈GT',H0.size≤b:=fun b hb=>by
  rcases hu.2 b hb with h1 | h1
  ·exact hG b h1
  ·omega
 have frU:Fr (U c) H0 H':=⟨by omega,fun b hb hn=>by rw [gr.up.1.2 b (by omega) fun hm=>hn (subU b hm),h.fr.2 b hb hn]⟩
 refine ⟨ap'.keep hu.1 (fun b hb hk=>by have:=hG b hb;have:=hlt.1 b hk;omega) (fun c' b hb hk=>by have:=hG b hb;have:=hlt.2 c' b hk;omega),⟨by have:=hu.1.1;omega,fun b hb hn=>by rw [hu.1.2 b (by omega) fun hm=>by have:=hG b hm;omega,frU.2 b hb hn]⟩,?_⟩
 have ltGL:=gr.new.lt
 have dGL:Disj GL GT:=fun b hb hm=>by
  rcases gr.up.2 b hb with h1 | h1
  ·have:=fsub b h1;have:=hG b hm;omega
  ·have:=hltG b hm;omega
 have dNew:∀ {F:Foot},(∀ b∈F,b<H'.size)→Disj F GT→Disj F GT':=fun hF hd b hb hm=>by
  rcases hu.2 b hm with h1 | h1
  ·exact hd b hb h1
  ·have:=hF b hb;omega
 refine ⟨upd hm i (a2,l2,c2),upd fm i GL,GT',?_,hGT',fun j hji=>?_⟩
 ·have e:(List.range (i+1)).map (fun j=>hdV (upd hm i (a2,l2,c2) j))=(List.range i).map (fun j=>hdV (hm j))++[.slice a2 l2 c2]:=by
   rw [List.range_succ,List.map_append,List.map_singleton,upd_eq]
   congr 1
   refine List.map_congr_left fun j hj=>?_
   rw [upd_ne _ _ (by have:=List.mem_range.1 hj;omega)]
  rw [e]
  exact hoN
 ·by_cases e:j=i
  ·subst e
   rw [upd_eq,upd_eq,hl2]
   refine ⟨?_,fun b hb=>?_,dNew ltGL dGL⟩
   ·have:=gr.new.fr hu.1 dGL
    simpa using this
   ·rcases gr.up.2 b hb with h1 | h1
    ·exact .inl h1
    ·exact .inr (by omega)
  ·rw [upd_ne _ _ e,upd_ne _ _ e]
   obtain ⟨q1,q2,q3⟩:=hj j (by omega)
   have ltm:=q1.lt
   have d1:Disj (fm j) (fs c i):=fun b hb hm=>by
    rcases q2 b hb with h1 | h1
    ·exact h.ap.dis c j i (by omega) hi e b h1 hm
    ·have:=fsub b hm;omega
   have q4:=q1.fr gr.up.1 d1
   exact ⟨q4.fr hu.1 q3,q2,dNew q4.lt q3⟩
theorem PH.more {H0:Heap}{c:Bool}{g:Nat→Value}{i cc:Nat}{a:Option Addr} (h:PH H0 H xb hd K U hs fs xs c g i a cc) (hlt:∀ c,∀ b∈U c,b<H0.size) (hi:i=(hd (sel c)).2.1):∃ hm KM,More H a i hm (fun j=>xs c j++List.replicate 41 (g j)) KM∧(∀ j,j<i→(hm j).2.1=(hs c j).2.1+41)∧∀ c',c'≠c→Disj KM (U c'):=by
 obtain ⟨hm,fm,GT,ho,hG,hj⟩:=h.mo
 refine ⟨hm,GT++(List.range i).flatMap fm,⟨fun j hji=>?_,fun j hji=>?_⟩,fun j hji=>?_,fun c' hc b hb hm=>?_⟩
 ·rcases ho.2.2 with ⟨_,h1,_⟩ | ⟨b,cs,rfl,rfl,_⟩
  ·have:=ho.2.1;omega
  ·refine ⟨b,rfl,by simp,?_⟩
   have:=ho.rd.2.2 _ rfl j (by omega)
   rw [add_none,Nat.zero_add] at this
   rw [this]
   simp [List.getElem?_range hji]
 ·obtain ⟨q1,q2,q3⟩:=hj j hji
  refine ⟨q1.rd,fun p hp=>List.mem_append.2 (.inr (List.mem_flatMap.2 ⟨j,List.mem_range.2 hji,?_⟩))⟩
  rcases q1.2.2 with ⟨h1,_⟩ | ⟨b,cs,h1,h2,_⟩
  ·rw [h1] at hp;cases hp
  ·rw [h1] at hp;cases hp
   rw [h2];simp
 ·obtain ⟨q1,q2,q3⟩:=hj j hji
  have e1:=q1.len
  have e2:=(h.ap.own c j (by omega)).len
  simp only [List.length_append,List.length_replicate] at e1
  omega
 ·have hb2:=hlt c' b hm
  rcases List.mem_append.1 hb with h1 | h1
  ·have:=hG b h1;omega
  ·obtain ⟨j,hj1,hj2⟩:=List.mem_flatMap.1 h1
   have hji:=List.mem_range.1 hj1
   rcases (hj j hji).2.1 b hj2 with h3 | h3
   ·exact h.ap.dUU c c' (fun e=>hc e.symm) b (h.ap.sub c j (by omega) b h3) hm
   ·omega
end
end Go.Proofs.YtmkdkplipbocjaaGreatDoor
namespace Kw
open Go
def seqR:Nat→Code→Code
 | 0,c=>c
 | n+1,.seq _ y=>seqR n y
 | _+1,c=>c
def bodyOf (fn:Func):Code:=fn.body.getD .skip
theorem evEq {X Y:Prop} (hX:X=Y) (h:X):Y:=hX ▸ h
end Kw
