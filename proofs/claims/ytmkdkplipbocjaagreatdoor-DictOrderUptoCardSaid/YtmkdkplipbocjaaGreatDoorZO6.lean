/- Lemmas for ROrder: functions of the program as predicate transformers, and their contracts. -/
import Derived.Test.YtmkdkplipbocjaaGreatDoorZO5
import Derived.JoinedOf
set_option linter.all false
set_option maxRecDepth 100000
set_option maxHeartbeats 4000000
namespace Go.Proofs.YtmkdkplipbocjaaGreatDoor
open Kw
theorem Own.out2 {H:Heap}{a:Option Addr}{l c:Nat}{xs:List Value}{G:Foot} (h:Own 1 H a l c xs G):Out H a []:=Own.out h (Disj.nil_right _)
section
variable {H0 H H1:Heap}{x bb b rb br mb:Nat}{i:Nat}{L:List DEnt}{a1 a2 a3:Option Addr}{l1 c1 l2 c2 l3 c3:Nat}{Q:QT}
theorem OS.nil (h:OS H0 H x bb b rb br mb i L a1 l1 c1 a2 l2 c2 a3 l3 c3) (f:Fr [] H H1):OS H0 H1 x bb b rb br mb i L a1 l1 c1 a2 l2 c2 a3 l3 c3:=by
 obtain ⟨Fp,Fq,G,s,t,v,es,seen,hits,G1,G2,G3,hB,hL,o1,o2,o3,hd,hF⟩:=h.ex
 exact ⟨⟨Fp,Fq,G,s,t,v,es,seen,hits,G1,G2,G3,hB.nil f,hL,o1.fr f (by simp),o2.fr f (by simp),o3.fr f (by simp),hd,hF⟩,h.fr.trans f⟩
theorem OS.ordered (h:OS H0 H x bb b rb br mb i L a1 l1 c1 a2 l2 c2 a3 l3 c3) (hq:∀ H',OS H0 H' x bb b rb br mb i L a1 l1 c1 a2 l2 c2 a3 l3 c3→Q (.bool true) H'):callS PP n_k39 #[.pointer (some ⟨x,0,none⟩),.slice a1 l1 c1,.slice a2 l2 c2,.slice a3 l3 c3] Q H:=by
 obtain ⟨Fp,Fq,G,s,t,v,es,seen,hits,G1,G2,G3,hB,hL,o1,o2,o3,hd,hF⟩:=h.ex
 exact ordered_c hB hL o1.rd (.inr (Own.out o1 (Disj.nil_right _))) o2.rd (.inr (Own.out2 o2)) o3.rd (.inr (Own.out o3 (Disj.nil_right _))) fun H' f=>hq H' (h.nil f)
theorem keep1 {w65:List Value}{I64:List Value→Heap→Prop}{μ64:List Value→Heap→Nat}{a11 a12 a13 a66 a67 a68:Option Addr}{l11 c11 l12 c12 l13 c13 l66 c66 l67 c67 l68 c68:Nat}{H12 HB:Heap}{G1 G2 G3 K1 K2 K3:Foot}{X Z:List Int}{Y:List ByteArray}{j:Nat}{n69:Int}
  (hj:n69=j) (hjl:j<L.length) (o1:Own 1 HB a11 l11 c11 (intsV (L.map (·.1))) G1) (o2:Own 1 HB a12 l12 c12 (strsV (L.map (·.2.1))) G2) (o3:Own 1 HB a13 l13 c13 (intsV (L.map (·.2.2))) G3)
  (h3:L3 HB H12 X Y Z a66 l66 c66 K1 a67 l67 c67 K2 a68 l68 c68 K3) (b1:X.length<1000000) (b2:Y.length<1000000) (b3:Z.length<1000000)
  (hK:∀ a l c K1' a' l' c' K2' a'' l'' c'' K3' H',L3 HB H' (X++[L[j].1]) (Y++[L[j].2.1]) (Z++[L[j].2.2]) a l c K1' a' l' c' K2' a'' l'' c'' K3'→I64 [.slice a l c,.slice a' l' c',.slice a'' l'' c'',.int .i64 (IntKind.wrap .i64 (n69+1))] H'∧μ64 [.slice a l c,.slice a' l' c',.slice a'' l'' c'',.int .i64 (IntKind.wrap .i64 (n69+1))] H'<μ64 w65 H12) :
  ((0:Int)≤n69∧n69<(l11:Int))∧∃ q73,a11=some q73∧∃ n74:Int,cellH H12 (q73.add (Int.toNat n69*1))=some (.int .i64 n74)∧evS PP (Builtin.append_ #[66,66] 66 #[.slice a66 l66 c66,.slice (some (⟨H12.size,0,none⟩:Addr)) 1 1]) (fun v75 H13=>∃ a76:Option Addr,∃ l76:Nat,∃ c76:Nat,v75=.slice a76 l76 c76∧((0:Int)≤n69∧n69<(l12:Int))∧∃ q77,a12=some q77∧∃ s78:ByteArray,cellH H13 (q77.add (Int.toNat n69*1))=some (.string s78)∧evS PP (Builtin.append_ #[37,37] 37 #[.slice a67 l67 c67,.slice (some (⟨H13.size,0,none⟩:Addr)) 1 1]) (fun v79 H14=>∃ a80:Option Addr,∃ l80:Nat,∃ c80:Nat,v79=.slice a80 l80 c80∧((0:Int)≤n69∧n69<(l13:Int))∧∃ q81,a13=some q81∧∃ n82:Int,cellH H14 (q81.add (Int.toNat n69*1))=some (.int .i64 n82)∧evS PP (Builtin.append_ #[66,66] 66 #[.slice a68 l68 c68,.slice (some (⟨H14.size,0,none⟩:Addr)) 1 1]) (fun v83 H15=>∃ a84:Option Addr,∃ l84:Nat,∃ c84:Nat,v83=.slice a84 l84 c84∧I64 [.slice a76 l76 c76,.slice a80 l80 c80,.slice a84 l84 c84,.int .i64 (IntKind.wrap .i64 (n69+1))] H15∧μ64 [.slice a76 l76 c76,.slice a80 l80 c80,.slice a84 l84 c84,.int .i64 (IntKind.wrap .i64 (n69+1))] H15<μ64 w65 H12) (H14.push (.cells #[.int .i64 n82] 3))) (H13.push (.cells #[.string s78] 9))) (H12.push (.cells #[.int .i64 n74] 3)):=by
 subst hj
 have e1:l11=L.length:=by have:=o1.len;simpa [intsV] using this.symm
 have e2:l12=L.length:=by have:=o2.len;simpa [strsV] using this.symm
 have e3:l13=L.length:=by have:=o3.len;simpa [intsV] using this.symm
 have x1:l66=X.length:=by have:=h3.o1.len;simpa [intsV] using this.symm
 have x2:l67=Y.length:=by have:=h3.o2.len;simpa [strsV] using this.symm
 have x3:l68=Z.length:=by have:=h3.o3.len;simpa [intsV] using this.symm
 obtain ⟨p1,rfl,q1,_⟩:=(o1.fr h3.fr (by simp)).rd.int (i:=(j:Int)) (by omega) (by omega)
 have g1:(L.map (·.1)).getD j 0=L[j].1:=by simp [hjl]
 rw [Int.toNat_natCast,g1] at q1
 refine ⟨⟨by omega,by omega⟩,_,rfl,_,by rw [Int.toNat_natCast,Nat.mul_one];exact q1,h3.app1 (by omega) fun a4 c4 G4 H13 h4=>⟨_,_,_,rfl,?_⟩⟩
 obtain ⟨p2,hp2,rfl,q2⟩:=(o2.fr h4.fr (by simp)).rd.str (i:=(j:Int)) (by omega) (by omega)
 have g2:(L.map (·.2.1))[((j:Int)).toNat]'hp2=L[j].2.1:=by simp
 rw [g2,Int.toNat_natCast] at q2
 refine ⟨⟨by omega,by omega⟩,_,rfl,_,by rw [Int.toNat_natCast,Nat.mul_one];exact q2,h4.app2 (by omega) fun a5 c5 G5 H14 h5=>⟨_,_,_,rfl,?_⟩⟩
 obtain ⟨p3,rfl,q3,_⟩:=(o3.fr h5.fr (by simp)).rd.int (i:=(j:Int)) (by omega) (by omega)
 have g3:(L.map (·.2.2)).getD j 0=L[j].2.2:=by simp [hjl]
 rw [Int.toNat_natCast,g3] at q3
 refine ⟨⟨by omega,by omega⟩,_,rfl,_,by rw [Int.toNat_natCast,Nat.mul_one];exact q3,h5.app3 (by omega) fun a6 c6 G6 H15 h6=>⟨_,_,_,rfl,?_⟩⟩
 exact hK _ _ _ _ _ _ _ _ _ _ _ _ H15 h6
theorem filter_take {p:DEnt→Bool}{j:Nat} (hj:j<L.length):(L.take (j+1)).filter p=(L.take j).filter p++if p L[j] then [L[j]] else []:=by
 rw [List.take_add_one,List.getElem?_eq_getElem hj,List.filter_append]
 simp only [Option.toList_some,List.filter_cons,List.filter_nil]
theorem filter_len (p:DEnt→Bool) (j:Nat):((L.take j).filter p).length≤L.length:=Nat.le_trans (List.length_filter_le _ _) (by rw [List.length_take];omega)
theorem ents_len {t:TB}{v:KV} (hd:KD v t) (hw:WFT t) (hm:v.cls.length≤256) (hL:L.Perm (entsK t v)):L.length≤32768:=by
 rw [hL.length_eq]
 have h1:=cntK_ents v.cls hd hw
 have h2:=cntK_le v.cls hd hw
 have h3:(entsK t v).length=cntK t v.cls:=h1
 omega
theorem dictOrder_c {words oops:Int}{a:Option Addr}{l c:Nat}{xs:List StepW} (hk:Kinds H) (hN:NamesAt H) (hs:StepsW H a l xs) (hl:l≤1100000000000)
  (hfix:∀ {Q':Value→Heap→Prop}{H':Heap},Fr [] H H'→(∀ H'',Fr [] H' H''→Q' (.bool true) H'')→callS PP n_k32 #[] Q' H') (h:∀ H',Fr [] H H'→Q (.bool true) H') :
  callS PP n_k8 #[.int .i64 words,.int .i64 oops,.slice a l c] Q H:=by
 have hxl:=hs.1
 apply k8_ok
 unfold k8 A0 iV wW pV sV lV cS;dsimp only [shH]
 refine made_c hk hN (fun _ H1 f1=>⟨_,_,rfl,?_⟩) fun H1 x bb b rb br mb Fp Fq s t v hB f1 hF he _ _ _ _ _=>⟨_,_,rfl,?_⟩
 ·simp only [Option.isNone_none,cond_true]
  exact hfix f1 fun H2 f2=>⟨_,rfl,h _ (f1.trans f2)⟩
 simp only [Option.isNone_some,cond_false]
 refine ⟨fun w H'=>∃(i:Nat) (L:List DEnt) (a1:Option Addr) (l1 c1:Nat) (a2:Option Addr) (l2 c2:Nat) (a3:Option Addr) (l3 c3:Nat),w=[.slice a1 l1 c1,.slice a2 l2 c2,.slice a3 l3 c3,.int .i64 i]∧i≤l∧OS H H' x bb b rb br mb i L a1 l1 c1 a2 l2 c2 a3 l3 c3,fun w _=>match w with
  | [_,_,_,.int _ i]=>(l-i).toNat
  | _=>0,⟨0,[],none,0,0,none,0,0,none,0,0,rfl,Nat.zero_le _,⟨⟨Fp,Fq,[],s,t,v,[],[],0,[],[],[],hB,by rw [he],Own.nil 1 _,Own.nil 1 _,Own.nil 1 _,by simp,hF⟩,f1⟩⟩,?_⟩
 rintro w H3 ⟨i,L,a1,l1,c1,a2,l2,c2,a3,l3,c3,rfl,hi,hO⟩ _
 refine ⟨_,_,_,_,_,_,_,_,_,_,rfl,?_⟩
 have stop:callS PP n_k32 #[] (fun v116 H25=>∃ b117:Bool,v116=.bool b117∧Q (.bool b117) H25) H3:=hfix hO.fr fun H4 f4=>⟨_,rfl,h _ (hO.fr.trans f4)⟩
 rw [cond_dec]
 refine ite_i (fun hlt=>?_) fun _=>stop
 generalize hM:(1099511627776:Int)=M
 rw [cond_dec]
 refine ite_i (fun _=>?_) fun _=>stop
 have hil:i<xs.length:=by omega
 obtain ⟨p,hp,hc⟩:=(hs.fr hO.fr).2 i xs[i] (List.getElem?_eq_getElem hil)
 have e:IntKind.wrap .i64 ((i:Int)+1)=((i+1:Nat):Int):=by rw [wrap64_id (by omega) (by omega)];omega
 have c0:cellH H3 (p.add (i*6))=some (.int .i64 (xs[i]).kind):=by have:=hc 0 _ rfl;simpa [Addr.add] using this
 refine ⟨⟨by omega,hlt⟩,_,hp,_,by rw [Int.toNat_natCast];exact c0,_,by rw [Int.toNat_natCast];exact hc 1 _ rfl,_,by rw [Int.toNat_natCast];exact hc 2 _ rfl,_,by rw [Int.toNat_natCast];exact hc 3 _ rfl,_,by rw [Int.toNat_natCast];exact hc 4 _ rfl,_,by rw [Int.toNat_natCast];exact hc 5 _ rfl,?_⟩
 refine wr6 (Blk.new H3 _ _) rfl ?_
 rw [fill6_def,e]
 generalize xs[i]=st at c0 hc ⊢
 have hSt:Blk (fill6 (H3.push (.cells #[.int .i64 0,.int .i64 0,.int .i64 0,.int .i64 0,.string ⟨#[]⟩,.string ⟨#[]⟩] 68)) H3.size (.int .i64 st.kind) (.int .i64 st.cl) (.int .i64 st.me) (.int .i64 st.i) (.string st.name) (.string st.other)) H3.size #[.int .i64 st.kind,.int .i64 st.cl,.int .i64 st.me,.int .i64 st.i,.string st.name,.string st.other]:=fill6_blk (Blk.new H3 _ _) rfl
 have fSt:Fr [] H3 (fill6 (H3.push (.cells #[.int .i64 0,.int .i64 0,.int .i64 0,.int .i64 0,.string ⟨#[]⟩,.string ⟨#[]⟩] 68)) H3.size (.int .i64 st.kind) (.int .i64 st.cl) (.int .i64 st.me) (.int .i64 st.i) (.string st.name) (.string st.other)) :=
  (up_all2 (F:=[H3.size]) (F':=[H3.size]) (Fr.push [] H3 _) (by simp) ⟨fill6_fr,fun _ h=>.inl h⟩).1
 generalize (fill6 (H3.push (.cells #[.int .i64 0,.int .i64 0,.int .i64 0,.int .i64 0,.string ⟨#[]⟩,.string ⟨#[]⟩] 68)) H3.size (.int .i64 st.kind) (.int .i64 st.cl) (.int .i64 st.me) (.int .i64 st.i) (.string st.name) (.string st.other))=HX at hSt fSt ⊢
 obtain ⟨Fp,Fq,G,s,t,v,es,seen,hits,G1,G2,G3,hB3,hL3,o1,o2,o3,after⟩:=hO.after (i':=i+1)
 have hBX:=hB3.nil fSt
 have hLb:=ents_len hB3.kd hB3.va.names.wf hB3.va.ks.shape.many1 hL3
 have nsb:H3.size∉FA bb mb Fp rb G Fq:=fun hm=>Nat.lt_irrefl _ (hB3.lt _ hm)
 have k2:l2=L.length:=by have:=o2.len;simpa [strsV] using this.symm
 obtain ⟨d0,d1,d2,d3,d4,d5⟩:=blk6 hSt
 have S:∀ {H1:Heap}{K:Foot},Fr K HX H1→H3.size∉K→_:=fun f hn=>blk6 (hSt.fr f hn)
 have nA:H3.size∉bb :: mb :: Fp:=fun hm=>nsb (List.mem_append.2 (.inl hm))
 refine ⟨fun w H'=>∃ e:Int,w=[.int .i64 e]∧(st.kind=1∨st.kind=2)∧Blk H' H3.size #[.int .i64 st.kind,.int .i64 st.cl,.int .i64 st.me,.int .i64 st.i,.string st.name,.string st.other] ∧
  (e≠0→OS H H' x bb b rb br mb (i+1) L a1 l1 c1 a2 l2 c2 a3 l3 c3) ∧
  (e=0→Own 1 H' a1 l1 c1 (intsV (L.map (·.1))) G1∧Own 1 H' a2 l2 c2 (strsV (L.map (·.2.1))) G2∧Own 1 H' a3 l3 c3 (intsV (L.map (·.2.2))) G3∧∀ L',L'=L.filter (other st.cl st.name)++(if st.kind=1 then [(st.cl,st.name,st.me)] else []) →
   ∀ H'' a1' l1' c1' K1 a2' l2' c2' K2 a3' l3' c3' K3,L3 H' H'' (L'.map (·.1)) (L'.map (·.2.1)) (L'.map (·.2.2)) a1' l1' c1' K1 a2' l2' c2' K2 a3' l3' c3' K3→OS H H'' x bb b rb br mb (i+1) L' a1' l1' c1' a2' l2' c2' a3' l3' c3'),?_,?_⟩
 ·refine ⟨_,d0,condJ (fun hk1=>?_) fun hk1=>condJ (fun hk2=>?_) fun hk2=>?_⟩
  ·
   refine ⟨_,rfl,_,hBX.x1,_,d1,_,d4,_,d2,put_two hBX fun H4 e f4 hq=>⟨_,rfl,trivial,num2_c ⟨_,rfl,trivial,?_⟩⟩⟩
   obtain ⟨_,g1,g2,_,g4,_⟩:=S f4 nA
   refine ⟨_,rfl,_,(xc (hBX.xb.fr f4 hBX.xp)).2.2.2,_,g1,_,g4,_,g2,hq _ fun H5 Fp' Fq' G' s' v' es' seen' hB5 u5 hc5=>⟨_,rfl,trivial,_,rfl,.inl hk1,hSt.fr u5.1 nsb,fun hne=>?_,fun he0=>?_⟩⟩
   ·have hv:=hc5.bad hne
    exact (after H5 Fp' Fq' G' s' t v' es' seen' hits L (hB5.more (Nat.le_succ i)) ((Up.of_nil fSt).trans u5) (by rw [hv];exact hL3)).2.1 rfl
   ·have hp5:(L.filter (other st.cl st.name)++[(st.cl,st.name,st.me)]).Perm (entsK t v'):=((hL3.filter _).append_right _).trans (hc5.ent he0).symm
    obtain ⟨⟨q1,q2,q3,_⟩,_,q5⟩:=after H5 Fp' Fq' G' s' t v' es' seen' hits _ (hB5.more (Nat.le_succ i)) ((Up.of_nil fSt).trans u5) hp5
    refine ⟨q1,q2,q3,fun L' hL'=>?_⟩
    rw [if_pos hk1] at hL'
    subst hL'
    exact q5
  ·
   refine ⟨_,rfl,_,hBX.x1,_,d1,_,d4,rem_two hBX fun H4 e f4 hq=>⟨_,rfl,trivial,num2_c ⟨_,rfl,trivial,?_⟩⟩⟩
   obtain ⟨_,g1,g2,_,g4,_⟩:=S f4 nA
   refine ⟨_,rfl,_,(xc (hBX.xb.fr f4 hBX.xp)).2.2.2,_,g1,_,g4,hq _ fun H5 Fp' Fq' G' s' v' es' seen' hB5 u5 hc5=>⟨_,rfl,trivial,_,rfl,.inr hk2,hSt.fr u5.1 nsb,fun hne=>?_,fun he0=>?_⟩⟩
   ·have hv:=hc5.bad hne
    exact (after H5 Fp' Fq' G' s' t v' es' seen' hits L (hB5.more (Nat.le_succ i)) ((Up.of_nil fSt).trans u5) (by rw [hv];exact hL3)).2.1 rfl
   ·have hp5:(L.filter (other st.cl st.name)++[]).Perm (entsK t v'):=((hL3.filter _).append_right _).trans (hc5.ent he0).symm
    obtain ⟨⟨q1,q2,q3,_⟩,_,q5⟩:=after H5 Fp' Fq' G' s' t v' es' seen' hits _ (hB5.more (Nat.le_succ i)) ((Up.of_nil fSt).trans u5) hp5
    refine ⟨q1,q2,q3,fun L' hL'=>?_⟩
    rw [if_neg hk1] at hL'
    subst hL'
    exact q5
  ·
   refine ⟨_,d0,_,d1,_,d2,_,d3,_,d4,_,d5,plays2_c hBX (by omega) fun H5 Fp' Fq' G' s' t' v' es' seen' hits' hB5 u5 he5=>⟨_,rfl,⟨i+1,L,_,_,_,_,_,_,_,_,_,rfl,by omega,?_⟩,by simp;omega⟩⟩
   exact (after H5 Fp' Fq' G' s' t' v' es' seen' hits' L hB5 ((Up.of_nil fSt).trans u5) (by rw [he5 hk1 hk2];exact hL3)).2.1 rfl
 ·rintro w H5 ⟨e0,rfl,hkd,hS5,hbad,hgood⟩ _
  refine ⟨_,rfl,condJ (fun he0=>?_) fun he0=>?_⟩
  rotate_left
  ·refine (hbad he0).ordered fun H6 hO6=>⟨_,rfl,?_⟩
   simp only [Bool.not_true,cond_false]
   exact ⟨⟨i+1,L,_,_,_,_,_,_,_,_,_,rfl,by omega,hO6⟩,by simp;omega⟩
  obtain ⟨o1',o2',o3',hnew⟩:=hgood he0
  generalize hF:other st.cl st.name=fl at hnew
  refine ⟨fun w H'=>∃(j:Nat) (b1:Option Addr) (m1 e1:Nat) (K1:Foot) (b2:Option Addr) (m2 e2:Nat) (K2:Foot) (b3:Option Addr) (m3 e3:Nat) (K3:Foot),w=[.slice b1 m1 e1,.slice b2 m2 e2,.slice b3 m3 e3,.int .i64 j]∧j≤L.length∧L3 H5 H' (((L.take j).filter fl).map (·.1)) (((L.take j).filter fl).map (·.2.1)) (((L.take j).filter fl).map (·.2.2)) b1 m1 e1 K1 b2 m2 e2 K2 b3 m3 e3 K3,fun w _=>match w with
   | [_,_,_,.int _ j]=>((L.length:Int)-j).toNat
   | _=>0,⟨0,_,_,_,_,_,_,_,_,_,_,_,_,rfl,Nat.zero_le _,L3.nil H5⟩,?_⟩
  rintro w H6 ⟨j,b1,m1,e1,K1,b2,m2,e2,K2,b3,m3,e3,K3,rfl,hj,h3⟩ _
  refine ⟨_,_,_,_,_,_,_,_,_,_,rfl,?_⟩
  have fb:=filter_len (L:=L) fl j
  have ln1:(((L.take j).filter fl).map (·.1)).length<1000000:=by rw [List.length_map];omega
  have ln2:(((L.take j).filter fl).map (·.2.1)).length<1000000:=by rw [List.length_map];omega
  have ln3:(((L.take j).filter fl).map (·.2.2)).length<1000000:=by rw [List.length_map];omega
  have y1:m1=((L.take j).filter fl).length:=by have:=h3.o1.len;simpa [intsV] using this.symm
  have y2:m2=((L.take j).filter fl).length:=by have:=h3.o2.len;simpa [strsV] using this.symm
  have y3:m3=((L.take j).filter fl).length:=by have:=h3.o3.len;simpa [intsV] using this.symm
  obtain ⟨t0,t1,t2,_,t4,_⟩:=blk6 (hS5.fr h3.fr (by simp))
  rw [cond_dec]
  refine ite_i (fun hjl=>?_) fun hjl=>?_
  ·have hjl:j<L.length:=by omega
   have ej:IntKind.wrap .i64 ((j:Int)+1)=((j+1:Nat):Int):=by rw [wrap64_id (by omega) (by omega)];omega
   have z1:l1=L.length:=by have:=o1'.len;simpa [intsV] using this.symm
   obtain ⟨p1,rfl,q1,_⟩:=(o1'.fr h3.fr (by simp)).rd.int (i:=(j:Int)) (by omega) (by omega)
   have g1:(L.map (·.1)).getD j 0=L[j].1:=by simp [hjl]
   rw [Int.toNat_natCast,g1] at q1
   have take:fl L[j]=true→_:=fun hf=>keep1 (w65:=[.slice b1 m1 e1,.slice b2 m2 e2,.slice b3 m3 e3,.int .i64 j]) (H12:=H6) (I64:=fun w H'=>∃(j:Nat) (b1:Option Addr) (m1 e1:Nat) (K1:Foot) (b2:Option Addr) (m2 e2:Nat) (K2:Foot) (b3:Option Addr) (m3 e3:Nat) (K3:Foot),w=[.slice b1 m1 e1,.slice b2 m2 e2,.slice b3 m3 e3,.int .i64 j]∧j≤L.length∧L3 H5 H' (((L.take j).filter fl).map (·.1)) (((L.take j).filter fl).map (·.2.1)) (((L.take j).filter fl).map (·.2.2)) b1 m1 e1 K1 b2 m2 e2 K2 b3 m3 e3 K3) (μ64:=fun w _=>match w with
    | [_,_,_,.int _ j]=>((L.length:Int)-j).toNat
    | _=>0) (n69:=(j:Int)) rfl hjl o1' o2' o3' h3 ln1 ln2 ln3 fun a7 l7 c7 K4 a8 l8 c8 K5 a9 l9 c9 K6 H7 h7=>by
     rw [ej]
     have ef:=filter_take (p:=fl) hjl
     rw [if_pos hf] at ef
     refine ⟨⟨j+1,_,_,_,K4,_,_,_,K5,_,_,_,K6,rfl,by omega,?_⟩,by simp;omega⟩
     rw [ef]
     simp only [List.map_append,List.map_cons,List.map_nil]
     exact h7
   refine ⟨⟨by omega,by omega⟩,_,rfl,_,by rw [Int.toNat_natCast,Nat.mul_one];exact q1,_,t1,?_⟩
   rw [bneI,cond_dec]
   refine ite_i (fun hne=>take ?_) fun hne=>?_
   ·rw [←hF];unfold other;simp only [decide_eq_true_eq];exact .inl hne
   have heq:L[j].1=st.cl:=Classical.byContradiction hne
   obtain ⟨p2,hp2,rfl,q2⟩:=(o2'.fr h3.fr (by simp)).rd.str (i:=(j:Int)) (by omega) (by omega)
   have g2:(L.map (·.2.1))[((j:Int)).toNat]'hp2=L[j].2.1:=by simp
   rw [g2,Int.toNat_natCast] at q2
   refine ⟨⟨by omega,by omega⟩,_,rfl,_,by rw [Int.toNat_natCast,Nat.mul_one];exact q2,_,t4,?_⟩
   rw [strEq_dec,←decide_not,cond_dec]
   refine ite_i (fun hne2=>take ?_) fun hne2=>?_
   ·rw [←hF];unfold other;simp only [decide_eq_true_eq];exact .inr hne2
   have heq2:L[j].2.1=st.name:=Classical.byContradiction hne2
   have hf:fl L[j]=false:=by
    rw [←hF];unfold other
    rw [decide_eq_false_iff_not]
    rintro (h1 | h1)
    ·exact h1 heq
    ·exact h1 heq2
   have ef:=filter_take (p:=fl) hjl
   rw [if_neg (by rw [hf];decide),List.append_nil] at ef
   rw [ej]
   exact ⟨⟨j+1,_,_,_,K1,_,_,_,K2,_,_,_,K3,rfl,by omega,by rw [ef];exact h3⟩,by simp;omega⟩
  ·have hjl:j=L.length:=by omega
   subst hjl
   rw [List.take_length] at h3
   refine ⟨_,t0,condJ (fun hk1=>?_) fun hk1=>?_⟩
   ·rw [if_pos hk1] at hnew
    refine ⟨_,t1,h3.app1 (by omega) fun a4 c4 G4 H7 h4=>⟨_,_,_,rfl,?_⟩⟩
    obtain ⟨_,_,_,_,s4,_⟩:=blk6 (hS5.fr h4.fr (by simp))
    refine ⟨_,s4,h4.app2 (by omega) fun a5 c5 G5 H8 h5=>⟨_,_,_,rfl,?_⟩⟩
    obtain ⟨_,_,r2,_,_,_⟩:=blk6 (hS5.fr h5.fr (by simp))
    refine ⟨_,r2,h5.app3 (by omega) fun a6 c6 G6 H9 h6=>⟨_,_,_,rfl,?_⟩⟩
    have hO9:=hnew _ rfl H9 _ _ _ _ _ _ _ _ _ _ _ _ (by simp only [List.map_append,List.map_cons,List.map_nil];exact h6)
    refine hO9.ordered fun H10 hO10=>⟨_,rfl,?_⟩
    simp only [Bool.not_true,cond_false]
    exact ⟨⟨i+1,_,_,_,_,_,_,_,_,_,_,rfl,by omega,hO10⟩,by simp;omega⟩
   ·rw [if_neg hk1] at hnew
    have hO9:=hnew _ rfl H6 _ _ _ _ _ _ _ _ _ _ _ _ (by rw [List.append_nil];exact h3)
    refine hO9.ordered fun H10 hO10=>⟨_,rfl,?_⟩
    simp only [Bool.not_true,cond_false]
    exact ⟨⟨i+1,_,_,_,_,_,_,_,_,_,_,rfl,by omega,hO10⟩,by simp;omega⟩
end
structure Rm (s:SP) (w o:Int):Prop where
 op:s.op=false
 mark:s.h.mark=0
 fit:endL s.h.objs+w≤s.h.words
 num:(s.h.objs.length:Int)+o≤s.h.oops
section
variable {s:SP}{v:KV}{t:TB}{w o:Int}
theorem Rm.alloc (h:Rm s w o){c n:Int} (hc:isW (4*c)) (h0:0≤n) (h1:n≤8192) (hw:n+2≤w) (ho:1≤o):(s.alloc (4*c) n 0).1.2=0∧Rm (s.alloc (4*c) n 0).2 (w-(n+2)) (o-1):=by
 have hf:=h.fit
 have hn:=h.num
 have hm:=h.mark
 have e:s.h.alloc (4*c) n 0=((lowFree s.h.objs,0),{ s.h with mark:=if 0<s.h.mark then s.h.mark-1 else s.h.mark,born:=IntKind.wrap .i64 (s.h.born+1),objs:=s.h.objs++[newO s.h (4*c) n 0] }):=by
  unfold RH.alloc
  have g1:¬ (¬ isW (4*c)∨(0:Int)<0∨(1:Int)<0∨n<0):=by
   intro hx
   rcases hx with hx | hx | hx | hx
   ·exact hx hc
   ·exact absurd hx (by decide)
   ·exact absurd hx (by decide)
   ·omega
  have g2:¬ (s.h.oops≤(s.h.objs.length:Int)∨s.h.words<endL s.h.objs+lenOf n 0):=by
   intro hx
   rcases hx with hx | hx
   ·omega
   ·unfold lenOf at hx;rw [if_neg (by decide)] at hx;omega
  rw [if_neg g1,if_neg (by omega),if_neg g2,if_neg (by omega)]
 unfold SP.alloc
 rw [e,if_pos (.inl (show ((0:Int)≠23) by decide))]
 refine ⟨rfl,h.op,by simp only [hm];rfl,?_,?_⟩
 ·simp only
  rw [endL_append]
  have hl:(newO s.h (4*c) n 0).len=2+n:=by
   unfold RO.len lenOf newO
   rw [if_neg (show ¬ ((0:Int)=1) by decide)]
   simp only [List.length_replicate]
   omega
  rw [hl]
  show endL s.h.objs+(2+n)+(w-(n+2))≤s.h.words
  omega
 ·simp only [List.length_append,List.length_cons,List.length_nil]
  omega
theorem Rm.put (h:Rm s w o) (k i x:Int):Rm { s with h:=(s.h.put k i x).2 } w o:=by
 have hs:=putR_same (r:=s.h) k i x
 have key:endL (s.h.put k i x).2.objs=endL s.h.objs∧(s.h.put k i x).2.objs.length=s.h.objs.length:=by
  unfold RH.put
  split
  ·exact ⟨rfl,rfl⟩
  split
  ·exact ⟨rfl,rfl⟩
  split
  ·exact ⟨rfl,rfl⟩
  ·exact ⟨endL_updO (fun _=>rfl) (fun o=>by unfold setO RO.len;simp),by simp [updO]⟩
 exact ⟨h.op,by show (s.h.put k i x).2.mark=0;rw [hs.2.2];exact h.mark,by show endL (s.h.put k i x).2.objs+w≤(s.h.put k i x).2.words;rw [hs.1,key.1];exact h.fit,by show ((s.h.put k i x).2.objs.length:Int)+o≤(s.h.put k i x).2.oops;rw [hs.2.1,key.2];exact h.num⟩
theorem Rm.lay (h:Rm s w o) (k:Int) (l:List Int):∀ i,Rm { s with h:=s.h.lay k i l } w o:=by
 induction l generalizing s with
 | nil=>intro i;exact h
 | cons x l ih =>
  intro i
  exact ih (s:={ s with h:=(s.h.put k i x).2 }) (h.put k i x) (i+1)
theorem Rm.stk (h:Rm s w o) (st:List Int):Rm { s with stack:=st } w o:=⟨h.op,h.mark,h.fit,h.num⟩
theorem Rm.make (h:Rm s w o) (hk:KS s v) (hst:s.stack.length<65000){c:Int} (hc:1≤c∧c≤65536){ws:List Int} (h1:ws.length≤8192) (hw:(ws.length:Int)+2≤w) (ho:1≤o) :
  (s.make c ws).1.2=0∧Rm (s.make c ws).2 (w-(ws.length+2)) (o-1):=by
 have hr:=salloc_rest s (4*c) ws.length 0
 obtain ⟨a1,a2⟩:=h.alloc (isW_obj hc.1 hc.2) (n:=(ws.length:Int)) (by omega) (by omega) hw ho
 obtain ⟨p,e1,o1,o2,_⟩:=salloc_ok hk.wf a1
 unfold SP.make
 rw [if_neg (by simpa using a1),e1]
 have e2:4*p / 4=p:=by omega
 rw [e2]
 rw [keepW_one (isW_obj o1 o2) (by simp only [hr.2.1];omega)]
 exact ⟨rfl,(a2.lay p ws 0).stk _⟩
theorem Rm.array (h:Rm s w o) (hk:KS s v) (hst:s.stack.length<65000){ws:List Int} (h1:ws.length≤8192) (hw:(ws.length:Int)+2≤w) (ho:1≤o) :
  (s.array ws).1.2=0∧Rm (s.array ws).2 (w-(ws.length+2)) (o-1):=by
 unfold SP.array
 by_cases he:ws=[]
 ·rw [if_pos he]
  refine ⟨rfl,h.op,h.mark,?_,?_⟩
  ·have:=h.fit;show endL s.h.objs+(w-(ws.length+2))≤s.h.words;omega
  ·have:=h.num;show (s.h.objs.length:Int)+(o-1)≤s.h.oops;omega
 ·rw [if_neg he]
  exact h.make hk hst (by decide) h1 hw ho
theorem Rm.root (h:Rm s w o) (i x:Int):Rm (s.setRoot i x).2 w o:=h.put s.king i x
theorem Rm.drop (h:Rm s w o) (n:Int):Rm (s.drop n).2 w o:=by
 unfold SP.drop
 split
 ·exact h
 ·exact h.stk _
theorem add_room {x:ByteArray} (hx:goodText x) (ht:(t.texts.length:Int)<t.most):(t.add x).1.2=0∧(t.add x).2.texts.length≤t.texts.length+1∧(t.add x).2.most=t.most:=by
 unfold TB.add
 rw [if_neg (by simpa using hx)]
 cases numOf t.texts x with
 | some n=>exact ⟨rfl,by simp,rfl⟩
 | none =>
  simp only
  rw [if_neg (by omega)]
  exact ⟨rfl,by simp,rfl⟩
theorem room_glob (h:Rm s w o) (hv:KAll s t v){name:ByteArray} (hg:globK v t name=0) (hx:goodText name) (ht:(t.texts.length:Int)<t.most) (hw:(2*v.glob.length:Int)+4≤w) (ho:1≤o) (hlt:v.glob.length<256) :
  (kGlobalAll s v t name).1=0∧Rm (kGlobalAll s v t name).2.1 (w-(2*v.glob.length+4)) (o-1)∧(kGlobalAll s v t name).2.2.texts.length≤t.texts.length+1∧(kGlobalAll s v t name).2.2.most=t.most:=by
 obtain ⟨b1,b2,b3⟩:=add_room hx ht
 have hst:=hv.stack
 have hgl:=globW_len v.glob
 have hlen:(globW v.glob++[4*(t.add name).1.1+2,4]).length=2*v.glob.length+2:=by simp [hgl]
 obtain ⟨a1,a2⟩:=h.array hv.ks (by rw [hst];simp) (ws:=globW v.glob++[4*(t.add name).1.1+2,4]) (by rw [hlen];omega) (by rw [hlen];omega) ho
 have ek:kGlob s t (globW v.glob) name=(0,((s.array (globW v.glob++[4*(t.add name).1.1+2,4])).2.setRoot 1 (s.array (globW v.glob++[4*(t.add name).1.1+2,4])).1.1).2,(t.add name).2):=by
  unfold kGlob
  rw [if_neg (by simpa using b1)]
  unfold kGlob1
  rw [if_neg (by simpa using a1)]
 unfold kGlobalAll
 rw [if_neg (by simpa using hg)]
 unfold kGlobal
 rw [ek]
 simp only
 unfold kEnd
 rw [if_pos rfl]
 refine ⟨trivial,?_,b2,b3⟩
 have:=(a2.root 1 (s.array (globW v.glob++[4*(t.add name).1.1+2,4])).1.1).drop (((((s.array (globW v.glob++[4*(t.add name).1.1+2,4])).2.setRoot 1 (s.array (globW v.glob++[4*(t.add name).1.1+2,4])).1.1).2.stack.length:Nat):Int)-(s.stack.length:Nat))
 rw [hlen] at this
 have e:w-(((2*v.glob.length+2:Nat):Int)+2)=w-(2*v.glob.length+4):=by omega
 rw [e] at this
 exact this
theorem room_def (h:Rm s w o) (hv:KAll s t v){name sup:ByteArray}{j:Nat} (hj:j<v.cls.length) (hd:defK v t name sup []=((v.cls[j]).oop,0)) (hx:goodText name) (ht:(t.texts.length:Int)<t.most) (hw:(v.cls.length:Int)+14≤w) (ho:3≤o) :
  (kDefineAll s v t name sup []).1.2=0∧Rm (kDefineAll s v t name sup []).2.1 (w-(v.cls.length+14)) (o-3)∧(kDefineAll s v t name sup []).2.2.texts.length≤t.texts.length+1∧(kDefineAll s v t name sup []).2.2.most=t.most:=by
 obtain ⟨b1,b2,b3⟩:=add_room hx ht
 have hst:=hv.stack
 have hk:=hv.ks
 have hmany:=hk.shape.many1
 have ecw:v.clsW.length=v.cls.length:=by simp [KV.clsW]
 have up:=up_arr hk hj
 have hwt:=add_wft hv.names.wf name
 obtain ⟨nn,en,hnn,_⟩:=add_ok name b1
 have e0:s.array []=((72,0),s):=by unfold SP.array;rw [if_pos rfl]
 have hsl:(clsSlots (4*(t.add name).1.1+2) (v.cls[j]).oop 72 v.clsW.length).length=7:=rfl
 have hsw:∀ x∈clsSlots (4*(t.add name).1.1+2) (v.cls[j]).oop 72 v.clsW.length,isW x:=clsSlots_words (by rw [en];exact isW_sym hwt ((tx_some hnn).2)) (isW_obj up.1 up.2) (by decide) (by omega)
 obtain ⟨c1,c2⟩:=h.make hk (by rw [hst];simp) (c:=12) (by decide) (ws:=clsSlots (4*(t.add name).1.1+2) (v.cls[j]).oop 72 v.clsW.length) (by rw [hsl];decide) (by rw [hsl];omega) (by omega)
 obtain ⟨m1,m2,m3,m4⟩:=make_ok hk (by rw [hst];simp) (cls:=12) (by decide) hsw
 obtain ⟨oc,k1,k2,_⟩:=m4 c1
 generalize hM:s.make 12 (clsSlots (4*(t.add name).1.1+2) (v.cls[j]).oop 72 v.clsW.length)=M at c1 c2 m1 k1 k2
 have hl3:(v.clsW++[M.1.1]).length=v.cls.length+1:=by simp [ecw]
 obtain ⟨d1,d2⟩:=c2.array m1 (by rw [k2,hst];simp) (ws:=v.clsW++[M.1.1]) (by rw [hl3];omega) (by rw [hl3,hsl];omega) (by omega)
 have ek:kDef s t v.clsW name (v.cls[j]).oop []=((M.1.1 / 4,0),((M.2.array (v.clsW++[M.1.1])).2.setRoot 0 (M.2.array (v.clsW++[M.1.1])).1.1).2,(t.add name).2):=by
  unfold kDef
  rw [if_neg (by simpa using b1)]
  unfold TB.addAll
  simp only
  rw [if_neg (by decide)]
  unfold kDef1
  rw [e0]
  simp only
  rw [if_neg (by decide)]
  unfold kDef2
  rw [hM,if_neg (by simpa using c1)]
  unfold kDef3
  rw [if_neg (by simpa using d1)]
 unfold kDefineAll
 rw [hd,if_neg (fun hn=>hn rfl)]
 unfold kDefine
 rw [ek]
 simp only
 unfold kEnd
 rw [if_pos rfl]
 refine ⟨trivial,?_,b2,b3⟩
 have:=(d2.root 0 (M.2.array (v.clsW++[M.1.1])).1.1).drop (((((M.2.array (v.clsW++[M.1.1])).2.setRoot 0 (M.2.array (v.clsW++[M.1.1])).1.1).2.stack.length:Nat):Int)-(s.stack.length:Nat))
 rw [hl3,hsl] at this
 refine ⟨this.op,this.mark,Int.le_trans (Int.add_le_add_left ?_ _) this.fit,Int.le_trans (Int.add_le_add_left ?_ _) this.num⟩
 ·omega
 ·omega
theorem room_write (h:Rm s w o) (hv:KAll s t v){c:Int}{kp l m:List Int} (hkp:∀ w∈kp,isW w) (hk1:kp.length≤1) (hl:∀ w∈l,isW w) (h1:l.length≤128) (h2:m.length≤128) (hw:(l.length:Int)+m.length+4≤w) (ho:2≤o):(kWrite s c kp l m).1=0:=by
 obtain ⟨ek,hk0⟩:=keepW_ok hv.ks hv.stack hkp hk1
 obtain ⟨a1,a2⟩:=(h.stk kp).array hk0 (by simp only;omega) (ws:=l) (by omega) (by omega) (by omega)
 obtain ⟨A1,_,⟨la,A3,A3'⟩,_⟩:=array_ok hk0 (by simp only;omega) hl
 obtain ⟨c1,_⟩:=a2.array A1 (by rw [A3];simp only [List.length_append];omega) (ws:=m) (by omega) (by omega) (by omega)
 unfold kWrite
 rw [ek]
 simp only
 rw [if_neg (by simpa using a1),if_neg (by simpa using c1)]
end
section
variable {H:Heap}{Q:QT}
theorem bthere_nil (h:Q (.bool false) H):callS PP n_k225 #[.pointer none] Q H:=by
 apply k225_ok
 unfold k225 pV
 exact h
theorem blists_nil {o:Int} (h:Q (.tuple #[.slice none 0 0,.slice none 0 0,.int .i64 2]) H):callS PP n_k135 #[.pointer none,.int .i64 o] Q H:=by
 apply k135_ok
 unfold k135 iV pV lV cS
 refine bthere_nil ⟨_,rfl,?_⟩
 simp only [Bool.not_false,cond_true]
 exact h
theorem blook_nil {o y:Int} (h:Q (.tuple #[.int .i64 0,.int .i64 0]) H):callS PP n_k132 #[.pointer none,.int .i64 o,.int .i64 y] Q H:=by
 apply k132_ok
 unfold k132 A0 iV wW pV cS;dsimp only [shH]
 refine bthere_nil ⟨_,rfl,?_⟩
 simp only [Bool.not_false,cond_true]
 exact h
theorem bat_nil {o:Int}{y:ByteArray} (h:Q (.tuple #[.int .i64 0,.int .i64 2]) H):callS PP n_k133 #[.pointer none,.int .i64 o,.string y] Q H:=by
 apply k133_ok
 unfold k133 iV pV sV lV cS
 exact blists_nil ⟨_,_,_,_,_,_,_,rfl,h⟩
theorem bput_nil {o m:Int}{y:ByteArray} (h:Q (.int .i64 2) H):callS PP n_k34 #[.pointer none,.int .i64 o,.string y,.int .i64 m] Q H:=by
 apply k34_ok
 unfold k34 A0 iV pV sV lV cS
 exact blists_nil ⟨_,_,_,_,_,_,_,rfl,h⟩
theorem brem_nil {o:Int}{y:ByteArray} (h:Q (.int .i64 2) H):callS PP n_k36 #[.pointer none,.int .i64 o,.string y] Q H:=by
 apply k36_ok
 unfold k36 iV pV sV lV cS
 exact blists_nil ⟨_,_,_,_,_,_,_,rfl,h⟩
theorem bsel_nil {o:Int} (h:Q (.slice none 0 0) H):callS PP n_k41 #[.pointer none,.int .i64 o] Q H:=by
 apply k41_ok
 unfold k41 A0 iV wW pV sV lV cS
 refine blists_nil ⟨_,_,_,_,_,_,_,rfl,fun w H'=>w=[.slice none 0 0,.int .i64 0]∧H'=H,fun _ _=>0,⟨rfl,rfl⟩,?_⟩
 rintro w H2 ⟨rfl,rfl⟩ _
 refine ⟨_,_,_,_,rfl,?_⟩
 rw [cond_dec,if_neg (by omega)]
 exact h
theorem bhits_nil (h:Q (.int .i64 0) H):callS PP n_k134 #[.pointer none] Q H:=by
 apply k134_ok
 unfold k134 iV pV
 refine bthere_nil ⟨_,rfl,?_⟩
 simp only [Bool.not_false,cond_true]
 exact h
theorem bNew_nil (h:Q (.tuple #[.pointer none,.int .i64 2]) H):callS PP n_k129 #[.pointer none] Q H:=by
 apply k129_ok
 unfold k129 iV pV
 exact h
end
abbrev fooB:ByteArray:=⟨#[102,111,111]⟩
abbrev pB:ByteArray:=⟨#[80]⟩
abbrev objB:ByteArray:=⟨#[79,98,106,101,99,116]⟩
theorem ok400:((bootR0 400 60).allocAll bootPlan).1=0:=by kernel_rfl
theorem rm400:Rm (bootS 400 60) 240 40:=⟨rfl,by kernel_rfl,by
 have e1:endL (bootS 400 60).h.objs=160:=by kernel_rfl
 have e2:(bootS 400 60).h.words=400:=by kernel_rfl
 omega,by
 have e1:(bootS 400 60).h.objs.length=20:=by kernel_rfl
 have e2:(bootS 400 60).h.oops=60:=by kernel_rfl
 omega⟩
theorem g_all:(kNames.all fun s=>decide (s≠gName) && decide (s≠pB))=true:=by kernel_rfl
theorem g_no:gName∉kNames:=fun h=>by have:=List.all_eq_true.1 g_all _ h;simp at this
theorem p_no:pB∉kNames:=fun h=>by have:=List.all_eq_true.1 g_all _ h;simp at this
theorem pg_no:gName≠pB:=by decide +kernel
theorem nameOne {n:UInt8} (h:65≤n.toNat∧n.toNat≤90):nameOk 65 90 ⟨#[n]⟩:=by
 have hg:gB ⟨#[n]⟩ 0=n.toNat:=gB_some (by rfl)
 refine ⟨Nat.le_refl 1,(show 1≤32 by decide),by rw [hg];exact h.1,by rw [hg];exact h.2,fun i hi=>?_⟩
 have hi:i<1:=hi
 have:i=0:=by omega
 subst this
 rw [hg]
 exact .inr (.inl h)
theorem boot_tx {t:TB} (h:∃ l,t.texts=kNames++l){i:Nat} (hi:i<kNames.length):tx t i=kNames[i]:=by
 obtain ⟨l,hl⟩:=h
 unfold tx
 rw [hl,List.getD_eq_getElem?_getD,List.getElem?_append_left hi,List.getElem?_eq_getElem hi]
 rfl
theorem no_class {v:KV}{t:TB}{name:ByteArray} (hc:v.cls=bootV.cls) (ht:∃ l,t.texts=kNames++l) (hn:name∉kNames):findK v t name=(0,130):=by
 rcases findK_cases v t name with ⟨h,_⟩ | ⟨i,hi,_,h⟩
 ·exact h
 ·exfalso
  have hi':i<bootV.cls.length:=by rw [←hc];exact hi
  have e:v.cls[i]=bootV.cls[i]:=by simp only [hc]
  have hk:i<kNames.length:=hi'
  rw [e,bootV_cls i hi'] at h
  simp only at h
  rw [boot_tx ht hk] at h
  exact hn (h ▸ List.getElem_mem hk)
theorem globK0:globK bootV bootT gName=0:=by
 unfold globK
 rw [if_neg (not_not_intro (nameOne (by decide))),if_neg ?_,if_neg (by decide)]
 rintro (h | h)
 ·rw [no_class rfl ⟨[],by simp [bootT]⟩ g_no] at h
  exact absurd h (by decide)
 ·simp [globsK,bootV] at h
theorem defK0 {s:SP}{v:KV}{t:TB} (hv:KAll s t v) (hc:v.cls=bootV.cls) (ht:∃ l,t.texts=kNames++l) (hg:∀ p∈v.glob,tx t p.1=gName):∃ h0:0<v.cls.length,defK v t pB objB []=((v.cls[0]).oop,0):=by
 have hlen:v.cls.length=14:=by rw [hc];rfl
 have h0:0<v.cls.length:=by omega
 refine ⟨h0,?_⟩
 have e0:v.cls[0]=bootV.cls[0]'(by decide):=by simp only [hc]
 have n0:tx t (v.cls[0]).name=objB:=by
  rw [e0,bootV_cls 0 (by decide)]
  exact boot_tx ht (i:=0) (by decide)
 have hf:findK v t objB=((v.cls[0]).oop,0):=by
  rcases findK_cases v t objB with ⟨_,h⟩ | ⟨i,hi,h,hn⟩
  ·exact absurd n0 (h _ (List.getElem_mem h0))
  ·have:(v.cls[i]).name=(v.cls[0]).name:=tx_inj hv.names.wf (hv.names.name _ (List.getElem_mem hi)) (hv.names.name _ (List.getElem_mem h0)) (hn.trans n0.symm)
   have e:i=0:=by
    have h1:(v.cls.map (·.name))[i]'(by simpa using hi)=(v.cls.map (·.name))[0]'(by simpa using h0):=by simpa using this
    exact (List.getElem_inj hv.names.nodup).1 h1
   subst e
   exact h
 have hfd:fieldsK v 0=[]:=by
  rw [hv.ks.fields0 h0,e0,bootV_cls 0 (by decide)]
 unfold defK
 rw [if_neg (not_not_intro (nameOne (by decide))),if_neg ?_,hf,if_neg (fun hn=>hn rfl)]
 ·simp only [hv.ks.idx h0]
  rw [if_neg (by omega),if_neg (by simp [ownE]),if_neg (by rw [hfd];decide),if_neg (by omega)]
 ·rintro (h | h)
  ·rw [no_class hc ht p_no] at h
   exact absurd h (by decide)
  ·obtain ⟨p,hp,e⟩:=List.mem_map.1 h
   exact pg_no ((hg p hp).symm.trans e)
attribute [local irreducible] bootRH bootH bootL
theorem look_small {s:SP}{v v4:KV}{t:TB}{c:CV}{d:Int}{n:Nat}{a b:Int} (hv4:KAll s t v4) (hv:v.cls=bootV.cls) (hc:c.sels=[]) (hu:c.up=4) (h0:0<(v.addC c d).cls.length)
  (e4:v4=(v.addC c d).setC 0 (((v.addC c d).cls[0]).lists a b [symW n] [72])):plK v4 c.oop=some 14∧lookK v4 (4*(n:Int)+2) 14=(18,4):=by
 have hl:v.cls.length=14:=by rw [hv];rfl
 have hl4:v4.cls.length=15:=by rw [e4];simp [KV.setC,KV.addC,hl]
 have h14:14<v4.cls.length:=by omega
 have h00:0<v4.cls.length:=by omega
 have c14:v4.cls[14]=c:=by
  subst e4
  simp only [KV.setC,KV.addC]
  rw [List.getElem_set_ne (by decide),List.getElem_append_right (by omega)]
  simp [hl]
 have c0:(v4.cls[0]).sels=[symW n]∧(v4.cls[0]).mets=[72]∧(v4.cls[0]).oop=4:=by
  have ho:=hv4.ks.shape.kern 0 h00 (by decide)
  subst e4
  refine ⟨?_,?_,ho⟩ <;> simp [KV.setC,CV.lists]
 refine ⟨by have:=hv4.ks.idx h14;rw [c14] at this;exact this,?_⟩
 rw [lookK_eq hv4.ks _ h14,c14,hc]
 have eu:upIdx v4 14=some 0:=by
  unfold upIdx superK
  rw [List.getElem?_eq_getElem h14,c14]
  simp only [hu]
  rw [if_neg (by decide)]
  have:=hv4.ks.idx h00
  rw [c0.2.2] at this
  exact this
 simp only [selI,eu]
 rw [lookK_eq hv4.ks _ h00,c0.1,c0.2.1,c0.2.2]
 simp only [selI]
 rw [if_pos (show symW n=4*(n:Int)+2 from rfl)]
 simp only [List.getD_cons_zero]
 show (oopW (4*18),(4:Int))=_
 rw [oopW_obj (o:=18) (by decide) (by decide)]
section
variable {H:Heap}{Q:QT}
theorem fixed_c (hk:Kinds H) (hN:NamesAt H) (h:∀ H',Fr [] H H'→Q (.bool true) H'):callS PP n_k32 #[] Q H:=by
 apply k32_ok
 unfold k32 iV pV sV lV cS
 refine made_c hk hN (fun hno=>absurd ⟨by decide,ok400⟩ hno) fun H1 x bb b rb br mb Fp Fq s t v hB f1 hF _ es et hv0 hext hgl=>⟨_,_,rfl,?_⟩
 simp only [Option.isNone_some,Bool.not_true,cond_false]
 have hF0:∀ y∈Fp,H.size≤y:=fun y hy=>hF y (by simp [FA,hy])
 have hmost0:bootT.most=4096:=rfl
 have hlen0:bootT.texts.length=14:=rfl
 have R1:=room_glob rm400 hv0 globK0 (by decide) (by rw [hlen0,hmost0];decide) (by show (2*((0:Nat):Int))+4≤240;decide) (by decide) (by decide)
 rw [←es,←et] at R1
 obtain ⟨_,r1,l1,m1⟩:=R1
 have hvc:v.cls=bootV.cls:=by
  rcases hgl with rfl | ⟨n,d,rfl,_⟩
  ·rfl
  ·rfl
 have hvg:∀ p∈v.glob,tx t p.1=gName:=by
  rcases hgl with rfl | ⟨n,d,rfl,hn⟩
  ·intro p hp;cases hp
  ·intro p hp
   simp only [KV.addG,bootV,List.nil_append,List.mem_singleton] at hp
   subst hp
   exact hn
 have htx:∃ l,t.texts=kNames++l:=hext.txt
 rw [hlen0] at l1
 rw [hmost0] at m1
 obtain ⟨a1,a2,a3⟩:=add_room (t:=t) (x:=fooB) (by decide) (by rw [m1];omega)
 obtain ⟨n,en,en2,_⟩:=add_ok fooB a1
 obtain ⟨hv2,he2⟩:=add_all hB.va fooB
 obtain ⟨tb,F2,hct,hT,_,_,hupT,_⟩:=hB.p.k.tb
 refine ⟨_,rfl,_,hB.x0,ksymbols_k hB.p.k fun tb' F2' hct' hT'=>?_⟩
 have ett:tb'=tb:=by rw [hct] at hct';simpa using hct'.symm
 subst ett
 refine ⟨_,rfl,ptAdd_c hT fun H2 F3 hT2 u2=>⟨_,_,rfl,?_⟩⟩
 obtain ⟨Fp2,hK2,u2'⟩:=hupT H2 F3 _ hT2 u2
 have hP2:=hB.p.up hK2 u2'
 have x2:=hB.xu u2'
 have nx2:x∉Fp2:=Up.out u2' (fun hm=>hB.xp (by simp [hm])) hB.xb.lt
 have hkd2:=hB.kd.ext he2
 have htx2:∃ l,(t.add fooB).2.texts=kNames++l:=by
  obtain ⟨l,hl⟩:=htx
  obtain ⟨l',hl'⟩:=he2.txt
  exact ⟨l++l',by rw [hl',hl,List.append_assoc]⟩
 have hvg2:∀ p∈v.glob,tx (t.add fooB).2 p.1=gName:=fun p hp=>by
  rw [tx_pre he2.txt (hB.va.names.glob p hp)];exact hvg p hp
 generalize ht2:(t.add fooB).2=t2 at hv2 he2 hP2 hK2 hkd2 htx2 hvg2 a2 a3 en2
 have hal:(t.add fooB).1.1=n:=en
 obtain ⟨h0,hd0⟩:=defK0 hv2 hvc htx2 hvg2
 have hcl:v.cls.length=14:=by rw [hvc];rfl
 have c0:v.cls[0]=bootV.cls[0]'(by decide):=by simp only [hvc]
 obtain ⟨d1,r2,l2,_⟩:=room_def r1 hv2 h0 hd0 (by decide) (by rw [a3,m1];omega) (by rw [hcl];show ((14:Nat):Int)+14≤240-(2*((0:Nat):Int)+4);decide) (by decide)
 refine ⟨_,rfl,_,(xc x2).1,kdefine_k hK2 hv2 strs_nil (.inl rfl) (Nat.le_refl _) (by decide) fun H3 Fp3 hK3 u3=>⟨_,_,rfl,num2_c ⟨_,rfl,?_⟩⟩⟩
 have hP3:=hP2.up hK3 u3
 have x3:=x2.fr u3.1 nx2
 have nx3:x∉Fp3:=Up.out u3 nx2 x2.lt
 rw [a1]
 simp only [show ((0:Int) != 0)=false from rfl,cond_false]
 refine num2_c ⟨_,rfl,?_⟩
 rw [d1]
 simp only [show ((0:Int) != 0)=false from rfl,cond_false]
 have hno:=(defK_ok hv2 (by rw [hd0])).choose_spec
 obtain ⟨hj0,ej0,hlt0,hno0,_,_⟩:=hno
 have eK:kDefineAll s v t2 pB objB []=kDefine s t2 v.clsW pB (v.cls[0]).oop []:=by
  unfold kDefineAll
  rw [hd0,if_neg (fun hn=>hn rfl)]
 have A:=(kDefine_ok hv2 h0 hlt0 (name:=pB) (own:=[]) hno0).2 (by rw [←eK];exact d1)
 rw [←eK] at A
 obtain ⟨nn,ns,ll,dd,hv3,hpre,_⟩:=A
 generalize hKD:kDefineAll s v t2 pB objB []=KD3 at hv3 hpre hK3 hP3 d1 r2 l2 ⊢
 have o4:(v.cls[0]).oop=4:=by rw [c0,bootV_cls 0 (by decide)];rfl
 have hext3:Ext v (v.addC ⟨KD3.1.1,nn,(v.cls[0]).oop,ns,ll,18,18,[],[],0⟩ dd) t2 KD3.2.2:=⟨⟨[_],rfl,by simp⟩,hpre⟩
 have hkd3:=hkd2.ext hext3
 have hl3:(v.addC ⟨KD3.1.1,nn,(v.cls[0]).oop,ns,ll,18,18,[],[],0⟩ dd).cls.length=15:=by simp [KV.addC,hcl]
 have h03:0<(v.addC ⟨KD3.1.1,nn,(v.cls[0]).oop,ns,ll,18,18,[],[],0⟩ dd).cls.length:=by omega
 have c03:(v.addC ⟨KD3.1.1,nn,(v.cls[0]).oop,ns,ll,18,18,[],[],0⟩ dd).cls[0]=⟨4,0,1,[],18,18,18,[],[],0⟩:=by
  simp only [KV.addC]
  rw [List.getElem_append_left (by omega),c0,bootV_cls 0 (by decide)]
  rfl
 have hnum:numOf KD3.2.2.texts fooB=some n:=by
  obtain ⟨m,hm⟩:=hpre
  have hg:KD3.2.2.texts[n]?=some fooB:=by rw [hm,List.getElem?_append_left (List.getElem?_eq_some_iff.1 en2).1];exact en2
  obtain ⟨hnl,hne⟩:=List.getElem?_eq_some_iff.1 hg
  refine numOf_some hnl hne fun j hj hjn e=>?_
  have:=(List.getElem_inj hv3.names.wf.nodup).1 (e.trans hne.symm)
  omega
 have hcls18:(KD3.2.1.h.clsAt 18).2=0:=by
  obtain ⟨y,hy,_⟩:=hv3.ks.view.empty
  simp [RH.clsAt,hy]
 have sel0:selT KD3.2.2 (v.addC ⟨KD3.1.1,nn,(v.cls[0]).oop,ns,ll,18,18,[],[],0⟩ dd).cls[0]=[]:=by rw [c03];rfl
 have eP:kPut KD3.2.1 KD3.2.2 (v.addC ⟨KD3.1.1,nn,(v.cls[0]).oop,ns,ll,18,18,[],[],0⟩ dd) 4 fooB 18=kWrite KD3.2.1 4 [72] [symW n] [72]:=by
  have hp:plK (v.addC ⟨KD3.1.1,nn,(v.cls[0]).oop,ns,ll,18,18,[],[],0⟩ dd) 4=some 0:=by
   have:=hv3.ks.idx h03
   rw [c03] at this
   exact this
  unfold kPut
  rw [hp]
  simp only [getC h03]
  unfold kPutI
  rw [hnum]
  simp only
  rw [if_neg (by simpa using hcls18),if_neg (by rw [sel0];simp),if_neg (by rw [c03];decide),sel0,c03]
  rfl
 have hnl3:n<KD3.2.2.texts.length:=(tx_some (numOf_get hnum)).2
 have hws:isW (symW n):=isW_sym hv3.names.wf hnl3
 have e0:(kWrite KD3.2.1 4 [72] [symW n] [72]).1=0:=room_write r2 hv3 (by simp;decide) (by simp) (by simpa using hws) (by simp) (by simp) (by rw [hcl];simp [bootV]) (by decide)
 obtain ⟨hd3,hne3⟩:=hkd3 _ (List.getElem_mem h03)
 refine ⟨_,rfl,_,(xc x3).2.1,bPutA_c hP3 hv3 hkd3 fun H4 Fp4 hP4 u4=>?_⟩
 rw [eP,e0] at hP4
 rw [eP,e0]
 refine ⟨_,rfl,num2_c ⟨_,rfl,?_⟩⟩
 simp only [show ((0:Int) != 0)=false from rfl,cond_false]
 have hs72:∀ w∈[(72:Int)],isW w:=by simp;decide
 have hW:=(kWrite_ok hv3 h03 (kp:=[72]) (l:=[symW n]) (m:=[72]) hs72 (by simp) (by simpa using hws) hs72 rfl).2
 rw [c03] at hW
 obtain ⟨wa,wb,hv4⟩:=hW e0
 have hkd4:KD ((v.addC ⟨KD3.1.1,nn,(v.cls[0]).oop,ns,ll,18,18,[],[],0⟩ dd).setC 0 ((⟨4,0,1,[],18,18,18,[],[],0⟩:CV).lists wa wb [symW n] [72])) KD3.2.2:=by
  have I:=insert_ok (m:=18) hne3 hv3.names.wf hnum (by rw [sel0];simp) (by rw [c03];decide) (by decide) (by decide)
  rw [sel0,c03] at I
  exact hkd3.set (I.dc wa wb)
 obtain ⟨pk14,lk⟩:=look_small (c:=⟨KD3.1.1,nn,(v.cls[0]).oop,ns,ll,18,18,[],[],0⟩) (d:=dd) (n:=n) (a:=wa) (b:=wb) hv4 hvc rfl o4 h03 (by rw [c03])
 have x4:=x3.fr u4.1 (fun hm=>by
  rcases List.mem_cons.1 hm with h1 | h1
  ·exact hB.xp (by simp [h1])
  ·exact nx3 h1)
 rw [hal]
 refine ⟨_,rfl,_,(xc x4).2.1,blookup_c hP4 hv4 hkd4 (CacheOK.nil _) (fun i hi hp hg=>absurd rfl hg) (fun i hi hp hg H5 hP5 f5=>?_) fun hp=>?_⟩
 rotate_left
 ·rw [pk14] at hp;cases hp
 rw [pk14] at hp
 cases hp
 rw [lk]
 refine ⟨_,_,rfl,blook_nil ⟨_,_,rfl,bat_nil ⟨_,_,rfl,bNew_nil ⟨_,_,rfl,condJ (fun _=>condJ (fun _=>condJ (fun _=>condJ (fun _=>num2_c ⟨_,rfl,condJ (fun _=>num2_c ⟨_,rfl,condJ (fun _=>?_) fun hn=>absurd rfl hn⟩) fun hn=>absurd rfl hn⟩) fun hn=>absurd rfl hn) fun hn=>absurd rfl hn) fun hn=>absurd rfl hn) fun hn=>absurd rfl hn⟩⟩⟩⟩
 simp only [Option.isNone_none,cond_true]
 refine bput_nil ⟨_,rfl,num2_c ⟨_,rfl,condJ (fun _=>brem_nil ⟨_,rfl,num2_c ⟨_,rfl,condJ (fun _=>bsel_nil ⟨_,_,_,rfl,condJ (fun _=>bhits_nil ⟨_,rfl,?_⟩) fun hn=>absurd rfl hn⟩) fun hn=>absurd rfl hn⟩⟩) fun hn=>absurd rfl hn⟩⟩
 rw [show ((0:Int) == 0)=true from rfl]
 refine h _ ⟨?_,fun y hy hn=>?_⟩
 ·have q1:=f1.1;have q2:=u2'.1.1;have q3:=u3.1.1;have q4:=u4.1.1;have q5:=f5.1;omega
 ·have q1:=f1.1
  have q2:=u2'.1.1
  have q3:=u3.1.1
  have q4:=u4.1.1
  have g0:∀ z∈bb :: mb :: Fp,H.size≤z:=fun z hz=>hF z (by simp only [FA,List.mem_cons,List.mem_append];simp only [List.mem_cons] at hz;rcases hz with h | h | h <;> simp [h])
  have g2:∀ z∈Fp2,H.size≤z:=fun z hz=>by
   rcases u2'.2 z hz with h1 | h1
   ·exact hF0 z h1
   ·omega
  have g3:∀ z∈Fp3,H.size≤z:=fun z hz=>by
   rcases u3.2 z hz with h1 | h1
   ·exact g2 z h1
   ·omega
  have gm:H.size≤mb:=g0 mb (by simp)
  have gb:H.size≤bb:=g0 bb (by simp)
  have g4:∀ z∈mb :: Fp4,H.size≤z:=fun z hz=>by
   rcases u4.2 z hz with h1 | h1
   ·rcases List.mem_cons.1 h1 with rfl | h1
    ·exact gm
    ·exact g3 z h1
   ·omega
  rw [f5.2 y (by omega) (fun hm=>by
    rcases List.mem_cons.1 hm with rfl | hm
    ·omega
    ·have:=g4 y hm;omega),
   u4.1.2 y (by omega) (fun hm=>by
    rcases List.mem_cons.1 hm with rfl | hm
    ·omega
    ·have:=g3 y hm;omega),
   u3.1.2 y (by omega) (fun hm=>by have:=g2 y hm;omega),u2'.1.2 y (by omega) (fun hm=>by have:=hF0 y hm;omega),f1.2 y hy (by simp)]
end
end Go.Proofs.YtmkdkplipbocjaaGreatDoor
namespace Kw
open Go
theorem joined_of {P:Program}{f:FuncId}{fn:Func}{s:ChangeSpec}{c:OpenClaim} (h1:c.wf (OpenSpec.ofChange s)=true) (h2:laidOutB P=true) (h3:mapsRowed P=true) (h4:fn.params.all (P.readableRec ·)=true) (h5:namedTie P c.named s.vars=true)
  (h6:(c.stops == [])=true) (h7:(P.stops == [])=true) (h8:(c.knobs == [])=true) (h9:(P.stopKnobs == [])=true) (h10:(c.inPlace == P.inPlace f)=true) (h11:(c.unfollowed == P.unfollowed f)=true) (h12:(c.recurses == P.recurses f)=true) (h13:(c.named == P.varsNamed f)=true)
  (h14:(c.maps == (fn.params.toList++s.plain.varTypes P).any (P.mapsRec ·))=true) (h15:(c.ifaces == (fn.params.toList++s.plain.varTypes P).any (P.ifacesRec ·))=true) (h16:(c.mapsOut == P.mapsAmong fn.resultTypes.toList)=true)
  (h17:(c.loops == (fn.params.toList++s.plain.varTypes P).any (P.loopsFrom ·))=true) (h18:(c.wideKeys == (fn.params.toList++s.plain.varTypes P++fn.resultTypes.toList).any (P.wideKeysFrom ·))=true)
  (h19:s.vars.all (P.varReadable ·)=true) (h20:fn.resultTypes.all (fun t=>P.readableRec t && decide (t<P.types.size))=true) (h21:(c.ifacesOut == fn.resultTypes.toList.any (P.ifacesRec ·))=true) (h22:(c.loopsOut == fn.resultTypes.toList.any (P.loopsFrom ·))=true) (h23:(c.plainKeys == P.plainKeys)=true) (h24:c.shortTexts.isNone=true) (h25:P.stopsHeard=true)
  (h28:P.mayEnter=true) (h29:(c.lifted == P.liftsFinal)=true) (h30:(P.make == some c.make)=true) (h31:c.domain=[]) (h33:c.kinds=[]) (h32:(c.pinned == c.pinnedBy)=true)
  (h26:(c.veiled == (fn.params.toList++s.plain.varTypes P++fn.resultTypes.toList).any (P.veiledRec ·))=true) (h27:c.veiledFits P fn.params.toList (fn.params.toList++s.plain.varTypes P++fn.resultTypes.toList)=true):joinedFacts P f fn s c=true:=by
 unfold joinedFacts
 simp only [h1,h2,h3,h4,h5,h6,h7,h8,h9,h10,h11,h12,h13,h14,h15,h16,h17,h18,h19,h20,h21,h22,h23,h24,h25,h26,h27,h28,h29,h30,h32,Bool.and_self,h31,h33,List.isEmpty_nil,if_true,beq_self_eq_true]
end Kw
