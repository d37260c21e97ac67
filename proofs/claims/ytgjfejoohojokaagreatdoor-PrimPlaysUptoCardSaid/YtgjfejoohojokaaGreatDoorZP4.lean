/- Lemmas for RPP: functions of the program as predicate transformers, and their contracts. -/
import Derived.Test.YtgjfejoohojokaaGreatDoorZP3
set_option linter.all false
set_option maxRecDepth 100000
set_option maxHeartbeats 4000000
namespace Go.Proofs.YtgjfejoohojokaaGreatDoor
open Kw
abbrev Pc (y:ByteArray):List Value:=y.data.toList.map fun u=>.int .u8 (u.toNat:Int)
section
variable {H:au}{Q:QT}{a:Option Addr}{l c:Nat}
theorem Ia {bb:Nat}{xs:List Value}{G:aS}{u:Int} (hb:oF 295 H bb (.slice a l c)) (hB:AR 5 H a l c xs G) (V0:bb∉G) (hl:l<1000000)
  (h:∀ H' a' c' G',oF 295 H' bb (.slice a' (l+1) c')->AR 5 H' a' (l+1) c' (xs++[.int .u8 u]) G'->bb∉G'->Up (bb :: G) H (bb :: G') H'->Q .nilIface H') :
  ag PP 354 #[QW bb,.int .u8 u] Q H:=by
 have i5:∃ i,PP.info? 5=some i∧i.size=1∧i.bytes=1∧i.zero=some (.int .u8 0):=⟨_,rfl,by kernel_rfl,by kernel_rfl,by kernel_rfl⟩;obtain ⟨i,hi,hk,RX,hz⟩:=i5;have an:=hb.lt;have Zs:=hB.1.lt;apply IW;dsimp only [aL,fe,aK,av,aE,am,aJ,bM,bj];refine pD { Tryz.rep with } Tryz.repX.toX72 ⟨_,Tryz.func383,rfl⟩ hb fun H1 cj f1 i7=>⟨rfl,_,rfl,a,l,c,?_,?_⟩
 ·obtain ⟨p,cj,_⟩:=cj;show aq H1 ⟨bb,0+1,none⟩=_;simp [aq,cj]
 have u7:AR 5 H1 a l c xs G:=hB.keep fun x hx=>f1.2 x (Zs x hx) (fun e=>V0 (by simp at e;subst e;exact hx));refine uJ (d:=5) (by kernel_rfl) hi hk RX hz rfl (by kernel_rfl) u7 rfl (by omega) fun a' c' G' H2 Da u2=>⟨_,_,_,rfl,_,rfl,?_,?_⟩
 ·have I2:bb∉G':=fun hm=>by
   rcases u2.2 bb hm with h1 | h1
   ·exact V0 h1
   ·omega
  obtain ⟨p,hp,_⟩:=cj.keep (u2.1.2 bb (by omega) V0);exact (show bI H2 bb #[p,.slice a l c] from ⟨_,hp⟩).wr (o:=1) (by simp)
 ·have I2:bb∉G':=fun hm=>by
   rcases u2.2 bb hm with h1 | h1
   ·exact V0 h1
   ·omega
  obtain ⟨p,hp,hpp⟩:=cj.keep (u2.1.2 bb (by omega) V0);have ic:∀ y,y≠bb->(aQ H2 ((⟨bb,0,none⟩:Addr).add 1) (.slice a' (l+1) c'))[y]?=H2[y]?:=fun y hy=>cP hy;refine h _ a' c' G' ⟨p,?_,hpp⟩ (Da.keep fun x hx=>ic x fun e=>I2 (e ▸ hx)) I2 ⟨⟨?_,fun y hy hn=>?_⟩,fun y hy=>?_⟩
  ·rw [show ((⟨bb,0,none⟩:Addr).add 1)=⟨bb,1,none⟩ from rfl];simp [aQ,a2a,hp];rfl
  ·rw [ck];have:=u2.1.1;omega
  ·simp only [a0E,a21] at hn;rw [ic y hn.1,u2.1.2 y (by omega) hn.2,f1.2 y hy (by simpa using hn.1)]
  ·rcases a0E.1 hy with rfl | hy
   ·exact .inl (by simp)
   ·rcases u2.2 y hy with h1 | h1
    ·exact .inl (by simp [h1])
    ·exact .inr (by omega)
theorem Aw {H0:au}{bb:Nat}{y:ByteArray}{G:aS} (hb:oF 295 H bb (.slice a l c)) (hB:AR 5 H a l c (Pc y) G) (J5:∀ x∈G,H0.size<=x) (V0:bb∉G) (f0:Fr [] H0 H)
  (h:∀ H',Fr [] H0 H'->Q (.string y) H'):ag PP 355 #[QW bb] Q H:=by
 have an:=hb.lt;have hc:∀ {Hz:au},oF 295 Hz bb (.slice a l c)->aq Hz ((⟨bb,0,none⟩:Addr).add 1)=some (.slice a l c):=fun {Hz} hz=>by
  obtain ⟨p,hz,_⟩:=hz;show aq Hz ⟨bb,0+1,none⟩=_;simp [aq,hz]
 have JT:PP.underlying 324=some (.pointer 5):=by kernel_rfl
 have uF:PP.cellsOf 5=1:=by kernel_rfl
 apply DU;dsimp only [aK,ac,av,aE,am,Pi,A9,aO];have fin:∀ p H1,Fr [] H H1->(l≠0->p=a)->∃ p7:Option Addr,(Value.pointer p:Value)=.pointer p7∧((aq H1 ((⟨bb,0,none⟩:Addr).add 1)=some (.slice a l c)∧True)∧True)∧cB PP (Builtin.unsafeString_ #[324,3] 9 #[.pointer p7,ac (l:Int)]) (fun v8 H2=>∃ s9:ByteArray,v8=.string s9∧True∧Q (.string s9) H2) H1:=fun p H1 f1 hp=>by
  have cj:=hb.keep (f1.2 bb an (by simp));have u7:=hB.keep fun x hx=>f1.2 x (hB.1.lt x hx) (by simp);refine ⟨_,rfl,⟨⟨hc cj,trivial⟩,trivial⟩,xt JT uF u7 hp fun H2 f2=>⟨_,rfl,trivial,h H2 ⟨?_,fun x hx _=>?_⟩⟩⟩
  ·have:=f0.1;have:=f1.1;have:=f2.1;omega
  ·have:=f0.1;have:=f1.1;rw [f2.2 x (by omega) (fun hm=>by have:=J5 x hm;omega),f1.2 x (by omega) (by simp),f0.2 x hx (by simp)]
 exact ⟨_,rfl,_,_,_,hc hb,_,rfl,_,_,_,hc hb,rO JT hB.1 (fun _=>fin a H (Fr.refl _ _) fun _=>rfl) fun hl p H1 f1=>fin p H1 f1 fun hn=>absurd hl hn⟩
end
def dm (r:RH) (w:Int) (n:Nat):List Int:=(List.range n).map fun i:Nat=>eU r w (i:Int)
section
variable {H:au}{b:Nat}{F:aS}{s:SP}{t:TB}{v:KV}{Q:QT}{r x:Int}{a:Option Addr}{l c:Nat}{ws:List Int}
theorem uL (hK:PK H b F s t){w:Int}{n:Nat} (hn:(dl s.h w).1=(n:Int)) (Oc:n<=1000000) (h:∀ q H',bZ 1 H' (some ⟨q,0,none⟩) n n (az (dm s.h w n)) [q]->H.size<=q->Fr [] H H'->Q (.slice (some ⟨q,0,none⟩) n n) H') :
  ag PP 291 #[cv b r a l c,ac w] Q H:=by
 have i7:bd PP 30=some (1,8,some (ac 0)):=by kernel_rfl
 apply Ks;dsimp only [aL,aN,aC,ah,ak,aX,ay,aK,aF,bc,aZ,ac,bf,bX,av,bm,am,aJ,bM,ax,bj,aI];have f:=Fr.push [] H (.cells (cc b r a l c) 138);have hb:=bI.new H (cc b r a l c) 138;refine ⟨_,hb.cell 0,_,hb.cell 1,_,_,_,hb.cell 2,gC (hK.nil f) fun H1 f1=>⟨_,_,rfl,?_⟩⟩;rw [hn];have f01:=f.trans f1;have cj:=hb.fr f1 (by simp);refine dQ i7 rfl (by omega) (a1F _) (by omega) (by decide) fun e=>⟨_,_,_,rfl,?_⟩;have f2:=f01.trans (Fr.push [] _ (.cells (Array.replicate (n:Int).toNat (ac 0)) e));have k8:=cj.push (.cells (Array.replicate (n:Int).toNat (ac 0)) e);have hq0:H.size<H1.size:=cj.lt;have JN:bZ 1 (H1.push (.cells (Array.replicate (n:Int).toNat (ac 0)) e)) (some ⟨H1.size,0,none⟩) (n:Int).toNat (n:Int).toNat (az (List.replicate n 0)) [H1.size]:=by
  refine ⟨by simp [az],a0U _,.inr ⟨_,_,rfl,rfl,bI.new _ _ _,by simp,?_⟩⟩;simp [az]
 simp only [a0j] at f2 k8 JN ⊢;generalize (H1.push (.cells (Array.replicate n (ac 0)) e))=H2 at f2 k8 JN ⊢;generalize H1.size=q at JN hq0 ⊢;refine ⟨fun w' H'=>∃(i:Nat) (rest:List Int),w'=[ac i]∧i<=n∧bZ 1 H' (some ⟨q,0,none⟩) n n (az (dm s.h w i++rest)) [q]∧Fr [] H H'∧bI H' H.size (cc b r a l c),fun w' _=>match w' with
  | [.int _ i]=>((n:Int)-i).toNat
  | _=>0,⟨0,_,rfl,a07 _,JN,f2,k8⟩,?_⟩
 rintro w' H3 ⟨i,rest,rfl,hi,Ji,f3,Ju⟩ _;have hlen:=Ji.len;simp only [az,dm,a1p,a1h,a4n,a0y] at hlen;refine ⟨_,rfl,fZ (fun an=>?_) fun JR=>?_⟩
 ·have ui:i<n:=by omega
  have e1:IntKind.wrap .i64 ((i:Int)+1)=((i+1:Nat):Int):=by rw [ao (by omega) (by omega)];omega
  rw [e1];refine ⟨_,Ju.cell 0,_,Ju.cell 1,_,_,_,Ju.cell 2,nL (hK.nil f3) fun H4 f4=>⟨_,rfl,⟨by omega,an⟩,_,rfl,?_⟩⟩;have Ok:=Ji.fr f4 (by simp);obtain ⟨bb,WF,hw,hf,Jj⟩:=vI Ok ui (ac (eU s.h w (i:Int)));cases WF;rw [aB,a0K,a0y,a0j];cases rest with
  | nil=>simp at hlen;omega
  | cons z rest =>
   have s7:Fr [] H (aQ H4 ⟨q,i,none⟩ (ac (eU s.h w (i:Int)))):=Fr.late (f3.trans f4) (by show H.size<=q;omega);refine ⟨hw,⟨i+1,rest,rfl,by omega,?_,s7,(Ju.fr f4 (by simp)).fr hf (by simp;omega)⟩,by simp;omega⟩;have et:(az (dm s.h w i++z :: rest)).set i (ac (eU s.h w (i:Int)))=az (dm s.h w (i+1)++rest):=by
    have h1:(dm s.h w i).length=i:=by simp [dm]
    have h2:dm s.h w (i+1)=dm s.h w i++[eU s.h w (i:Int)]:=by simp [dm,a4F]
    rw [h2];simp only [az,a2m,a2k,a18,List.singleton_append,a26];rw [a3W _ _ (by rw [a1p,h1];exact a0U _),a1p,h1,a4b];rfl
   rw [←et];exact Jj
 ·have Sv:i=n:=by omega
  subst Sv
  have:rest=[]:=a1o (by omega);subst this;rw [a2S] at Ji;exact h q H3 Ji (by omega) f3
theorem sC {r:RH}{k:Int}{xs:List Int} (h:mR r k xs) (h1:1<=k) (h2:k<=65536):dm r (4*k) xs.length=xs:=by
 apply a3O;intro i;unfold dm;by_cases hi:i<xs.length
 ·rw [a2s,List.getElem?_range hi];simp only [a2Q];rw [qv h h1 h2 hi];simp [hi]
 ·rw [a2I (by simp;omega),a2I (by omega)]
theorem tH (hK:PK H b F s t){k:Int}{y:ByteArray} (hs:mR s.h k (bN y)) (h1:1<=k) (h2:k<=65536) (hy:y.size<=100000) (h:∀ H',Fr [] H H'->Q (.string y) H') :
  ag PP 303 #[cv b r a l c,ac (4*k)] Q H:=by
 have D0:=ik y;apply yp;dsimp only [aL,aN,A6,cq,du,eI,ah,ak,eb,aX,ay,aK,aF,bc,aZ,ac,bf,bX,av,bm,am,aJ,aO,ax,aI];have f:=Fr.push [] H (.cells (cc b r a l c) 138);have hb:=bI.new H (cc b r a l c) 138;have sz:(H.push (.cells (cc b r a l c) 138)).size=H.size+1:=by simp
 have s5:=hK.nil f;generalize (H.push (.cells (cc b r a l c) 138))=H1 at f hb sz s5 ⊢;refine tX s5.kinds ?_;unfold mr;rw [a0a (by rw [fM h1 h2];decide)];refine ⟨_,_,rfl,?_⟩;simp only [show ((10:Int) == 0)=false from rfl,a0f];have f2:=Fr.push [] H1 (.cells #[.pointer none,.slice none 0 0] 295);have Ut:oF 295 (H1.push (.cells #[.pointer none,.slice none 0 0] 295)) H1.size (.slice none 0 0):=⟨_,by simp,.inl rfl⟩;have k8:=hb.push (.cells #[.pointer none,.slice none 0 0] 295);have JP:=s5.nil f2;have f02:=f.trans f2;have sz2:(H1.push (.cells #[.pointer none,.slice none 0 0] 295)).size=H1.size+1:=by simp
 generalize (H1.push (.cells #[.pointer none,.slice none 0 0] 295))=H2 at f2 Ut k8 JP f02 sz2 ⊢;refine ⟨_,k8.cell 0,_,k8.cell 1,_,_,_,k8.cell 2,uL JP (n:=y.size) (by rw [km hs h1 h2];simp only [D0]) (by omega) fun q H3 Ji OE f3=>⟨_,_,_,rfl,?_⟩⟩;have hsl:=sC hs h1 h2;rw [D0] at hsl;rw [hsl] at Ji;have a03:=Ut.keep (f3.2 _ Ut.lt (by simp));refine ⟨fun w' H'=>∃(i:Nat) (a':Option Addr) (c':Nat) (G:aS),w'=[ac i]∧i<=y.size∧oF 295 H' H1.size (.slice a' i c')∧AR 5 H' a' i c' ((Pc y).take i) G∧H1.size∉G∧q∉G∧(∀ x∈G,H.size<=x)∧bZ 1 H' (some ⟨q,0,none⟩) y.size y.size (az (bN y)) [q]∧Fr [] H H',fun w' _=>match w' with
  | [.int _ i]=>((y.size:Int)-i).toNat
  | _=>0,⟨0,none,0,[],rfl,a07 _,a03,⟨bZ.nil _ _,by simp,a07 _⟩,by simp,by simp,by simp,Ji,f02.trans f3⟩,?_⟩
 rintro w' H4 ⟨i,a',c',G,rfl,hi,Xb,Ts,n1,n2,J5,Ok,f4⟩ _;refine ⟨_,rfl,fZ (fun an=>?_) fun JR=>?_⟩
 ·have ui:i<y.size:=by omega
  have e1:IntKind.wrap .i64 ((i:Int)+1)=((i+1:Nat):Int):=by rw [ao (by omega) (by omega)];omega
  obtain ⟨p,hp1,OT,hp3⟩:=Ok.rd.int (i:=(i:Int)) (by omega) (by omega);cases hp1;simp only [a0j] at OT;have hu:=(y[i]).toNat_lt;have Vr:(bN y).getD i 0=((y[i]).toNat:Int):=by
   unfold bN;rw [a1f,a2s,a2C]
   have:y.data[i]?=some y[i]:=by
    have h1:i<y.data.size:=ui;rw [a3g h1];rfl
   rw [this];rfl
  have hui:(Pc y)[i]?=some (.int .u8 ((y[i]).toNat:Int)):=by
   unfold Pc;rw [a2s,a2C]
   have:y.data[i]?=some y[i]:=by
    have h1:i<y.data.size:=ui;rw [a3g h1];rfl
   rw [this];rfl
  refine ⟨⟨by omega,an⟩,_,rfl,_,by rw [a0j,a0y];exact OT,?_⟩;rw [Vr,e1];have eu:IntKind.wrap .u8 ((y[i]).toNat:Int)=((y[i]).toNat:Int):=by
   unfold IntKind.wrap;simp only [IntKind.bits,IntKind.signed]
   first
    | (simp;omega)
    | omega
  rw [eu];refine Ia Xb Ts n1 (by omega) fun H5 a5 c5 G5 a05 Vc n5 u5=>⟨_,rfl,?_⟩;have hq4:q<H4.size:=Ok.lt q (by simp);have hqb:q≠H1.size:=by omega
  refine ⟨⟨i+1,a5,c5,G5,rfl,by omega,a05,?_,n5,fun hm=>?_,fun x hx=>?_,Ok.fr u5.1 (by simpa using ⟨hqb,n2⟩),?_⟩,by simp;omega⟩
  ·rw [a1i,hui];exact Vc
  ·rcases u5.2 q (by simp [hm]) with h3 | h3
   ·simp only [a0E] at h3;exact h3.elim hqb n2
   ·omega
  ·rcases u5.2 x (by simp [hx]) with h3 | h3
   ·simp only [a0E] at h3;rcases h3 with rfl | h3
    ·omega
    ·exact J5 x h3
   ·have:=f4.1;omega
  ·refine ⟨a0O f4.1 u5.1.1,fun x hx _=>?_⟩;rw [u5.1.2 x (a0X hx f4.1) (fun hm=>?_),f4.2 x hx (by simp)];rcases a0E.1 hm with rfl | hm
   ·omega
   ·have:=J5 x hm;omega
 ·have Sv:i=y.size:=by omega
  subst Sv;have Vc:AR 5 H4 a' y.size c' (Pc y) G:=by
   rw [a0Y (by simp [Pc])] at Ts;exact Ts
  exact Aw (H0:=H) Xb Vc J5 n1 f4 fun H' f'=>⟨_,rfl,h H' f'⟩
end
theorem zo (H:au) (n:Int) (e:TypeId):Rd 1 (H.push (.cells #[ac n] e)) (some ⟨H.size,0,none⟩) 1 (az [n]) :=
 (show bZ 1 (H.push (.cells #[ac n] e)) (some ⟨H.size,0,none⟩) 1 1 (az [n]) [H.size] from ⟨by simp [az],a0U _,.inr ⟨_,_,rfl,rfl,bI.new _ _ _,by simp,by simp [az]⟩⟩).rd
structure SD (H:au) (db:Nat) (D:aS) (s:SP) (t:TB) (v:KV) (ws:List Int) (N:Nat):Prop where
 dk:DK H db D s t ws
 all:KAllW s t v
 st:s.stack.length<=N
 wl:ws.length<=N
theorem SD.nil {H H':au}{db:Nat}{D:aS}{s:SP}{t:TB}{v:KV}{ws:List Int}{N:Nat} (h:SD H db D s t v ws N) (f:Fr [] H H'):SD H' db D s t v ws N:=⟨h.dk.nil f,h.all,h.st,h.wl⟩
section
variable {H:au}{db:Nat}{D:aS}{s:SP}{t:TB}{v:KV}{ws:List Int}{N:Nat}{Q:QT}{r:Int}
end
def HB (H:au) (b sb hb:Nat):Prop:=aq H ⟨b,0,none⟩=some (QW sb)∧aq H ⟨sb,0,none⟩=some (QW hb)
theorem eK {H:au}{b o:Nat}{v:Value} (h:aq H ⟨b,o,none⟩=some v):b<H.size:=by
 unfold aq at h;rcases a2t b H.size with h1 | h1
 ·exact h1
 ·simp only [a2u h1] at h;cases h
theorem HB.nil {H H':au}{b sb hb:Nat} (h:HB H b sb hb) (hf:Fr [] H H'):HB H' b sb hb:=by
 obtain ⟨h1,h2⟩:=h;exact ⟨by rw [cM hf (by simp) (eK h1)];exact h1,by rw [cM hf (by simp) (eK h2)];exact h2⟩
section
variable {H:au}{b sb hb:Nat}{F:aS}{s:SP}{t:TB}{Q:QT}
theorem PK.hp (hK:PK H b F s t) (hB:HB H b sb hb):∃ F1,d9 H hb F1 s.h∧(∀ x∈F1,x∈F)∧∀ H' r',d9 H' hb F1 r'->Fr F1 H H'->PK H' b F { s with h:=r' } t∧HB H' b sb hb:=by
 obtain ⟨sb',F1,hc,hS,ff,Tx,_,s6⟩:=hK.sp;obtain ⟨uF,w7⟩:=hB;rw [hc] at uF;have e:sb'=sb:=by simpa using uF
 subst e;obtain ⟨k9,F2,hR,c0,_,_,Jr,Of,JK⟩:=hS.upd;rw [c0] at w7;have e:k9=hb:=by simpa using w7
 subst e;have D0:=hK.lt b hK.bmem;have hsl:=hS.lt _ hS.bmem;refine ⟨F2,hR,fun x hx=>ff x (Jr x hx),fun H' r' RC hf=>⟨s6 H' _ (JK H' r' RC hf) (hf.mono Jr),?_,?_⟩⟩
 ·rw [cM hf (fun hm=>Tx (Jr b hm)) D0];exact hc
 ·rw [cM hf Of hsl];exact c0
theorem PK.tbB (hK:PK H b F s t) (hB:HB H b sb hb):∃ tb F2,aq H ⟨b,1,none⟩=some (QW tb)∧pY H tb F2 t∧∀ H' F2' t',pY H' tb F2' t'->Up F2 H F2' H'->(∃ F',PK H' b F' s t'∧Up F H F' H')∧HB H' b sb hb:=by
 obtain ⟨sb0,tb,F1,F2,rfl,h1,h2,h3,k1,k2,Ut,hS,hT⟩:=hK;have hK:PK H b (b :: (F1++F2)) s t:=⟨sb0,tb,F1,F2,rfl,h1,h2,h3,k1,k2,Ut,hS,hT⟩;obtain ⟨tb',F2',Vs,VZ,Uu,hbF',hup',_⟩:=hK.tb;obtain ⟨uF,w7⟩:=hB;have e0:aq H ⟨b,0,none⟩=some (QW sb0):=Ut.cell 0;rw [e0] at uF;have e:sb0=sb:=by simpa using uF
 subst e;have D0:=hK.lt b hK.bmem;have hsl:=hS.lt _ hS.bmem;refine ⟨tb,F2,Ut.cell 1,hT,fun H' F2' t' So hu=>⟨?_,?_,?_⟩⟩
 ·have an:=hK.lt;have Tp:=hK.kinds.lt;have hgS:=hS.gk;refine ⟨b :: (F1++F2'),⟨_,tb,F1,F2',rfl,h1,Up.out hu h2 D0,fun x hx At=>?_,k1,Up.out hu k2 Tp,Ut.fr hu.1 h2,hS.fr hu.1 h3 k2,So⟩,hu.1.mono fun x hx=>by simp [hx],fun x hx=>?_⟩
  ·rcases hu.2 x At with h4 | h4
   ·exact h3 x hx h4
   ·have:=an x (by simp [hx]);omega
  ·rcases a0E.1 hx with rfl | hx
   ·exact .inl (by simp)
   ·rcases a0T.1 hx with hx | hx
    ·exact .inl (by simp [hx])
    ·exact (hu.2 x hx).imp (fun h4=>by simp [h4]) id
 ·rw [cM hu.1 h2 D0];exact e0
 ·rw [cM hu.1 (h3 _ hS.bmem) hsl];exact w7
theorem pS {r:RH} (h:∀ k x,aT r.objs k=some x->x.fmt=0) (k i w:Int):∀ j x,aT (r.put k i w).2.objs j=some x->x.fmt=0:=fun j x hx=>by
 obtain ⟨y,h1,h2⟩:=yw k i w j hx;rw [h2];exact h j y h1
theorem FX (o:Int) (l:List Int):∀ (i:Int){r:RH},(∀ k x,aT r.objs k=some x->x.fmt=0)->∀ j x,aT (r.lay o i l).objs j=some x->x.fmt=0:=by
 induction l with
 | nil=>intro i r h;exact h
 | cons w l ih=>intro i r h;exact ih (i+1) (pS h o i w)
theorem sV {r:RH} (h:∀ k x,aT r.objs k=some x->x.fmt=0) (n:Nat):∀ j x,aT (kI r n).objs j=some x->x.fmt=0:=by
 induction n with
 | zero=>exact h
 | succ n ih=>exact pS (FX _ _ _ ih) _ _ _
theorem NT (hK:PK H b F s ⟨4096,[]⟩) (hB:HB H b sb hb) (S3:∀ k x,aT s.h.objs k=some x->x.fmt=0)
  (h:∀ H' F',PK H' b F' { s with h:=cy s.h } jp->HB H' b sb hb->Up F H F' H'->Q (.tuple #[]) H'):ag PP 75 #[QW b] Q H:=by
 have h14:cI.length=14:=rfl;apply MW;dsimp only [aL,aC,cq,du,ah,ak,aX,ay,aF,cX,bc,ac,bf,C7,bX,bm,aE,am,aJ,aO,ax,bJ,aI];obtain ⟨sb0,F1,hc,hS,_⟩:=hK.sp;have e0:sb0=sb:=by
  have:=hB.1;rw [hc] at this;simpa using this
 subst e0;refine ⟨_,rfl,_,hc,?_⟩;have Zx:∀ {Q':Value->au->Prop},Q' (QW hb) H->ag PP 44 #[QW sb0] Q' H:=by
  intro Q' hq;obtain ⟨k9,F1',hR,c0,_⟩:=hS.upd;obtain ⟨uF,w7⟩:=hB;rw [c0] at w7;have e:k9=hb:=by simpa using w7
  subst e;apply B0;dsimp only [bk,ah,aF,aE,am];refine ip hS ⟨_,rfl,?_⟩;simp only [a0f];exact ⟨_,rfl,_,c0,hq⟩
 refine Zx ⟨_,rfl,?_⟩;apply Cw;dsimp only [aL,av,aJ,aO];refine ⟨_,_,_,rfl,?_⟩;have fp:=(Fr.push [] H (.cells (bC cI).toArray 9));have hN:Rd 1 (H.push (.cells (bC cI).toArray 9)) (some ⟨H.size,0,none⟩) 14 (bC cI):=by
  refine ⟨rfl,(fun h=>by cases h),fun p hp k hk=>?_⟩;cases hp;rw [aB,a0K,(bI.new H _ _).cell];simp
 have hNo:rM (H.push (.cells (bC cI).toArray 9)) (some ⟨H.size,0,none⟩) F:=fun p hp=>by
  cases hp;exact ⟨by simp,fun hm=>absurd (hK.lt _ hm) (a2B _)⟩
 have s5:=hK.nil fp;have u7:HB (H.push (.cells (bC cI).toArray 9)) b sb0 hb:=HB.nil hB fp;show ∃(I8:List Value->au->Prop) (μ8:List Value->au->Nat),I8 [ac 0] (H.push (.cells (bC cI).toArray 9))∧_;generalize (H.push (.cells (bC cI).toArray 9))=H0 at fp hN hNo s5 u7 ⊢;refine ⟨fun w H'=>∃(i:Nat) (F':aS),w=[ac i]∧i<=14∧PK H' b F' { s with h:=kI s.h i } ⟨4096,cI.take i⟩∧HB H' b sb0 hb∧Up F H0 F' H',fun w _=>match w with
  | [.int _ i]=>(14-i).toNat
  | _=>0,⟨0,F,rfl,by decide,s5,u7,Up.refl _ _⟩,?_⟩
 rintro w H3 ⟨i,F3,rfl,hi,I4,O9,J0⟩ _;refine ⟨_,rfl,?_⟩;rw [ae];refine aD (fun an=>?_) fun an=>?_
 ·have b9:i<cI.length:=by omega
  obtain ⟨p,be,hp,aj⟩:=(hNo.rd J0 hN).str (i:=(i:Int)) (by omega) (by omega);cases hp;simp only [a0j] at aj be;have e1:IntKind.wrap .i64 ((i:Int)+1)=((i+1:Nat):Int):=by rw [ao (by omega) (by omega)];omega
  have e1':IntKind.wrap .i64 ((i:Int)+1)=(i:Int)+1:=ao (by omega) (by omega);have e4:IntKind.wrap .i64 (4+(i:Int))=4+(i:Int):=ao (by omega) (by omega);obtain ⟨tb,F4,Rr,hT4,O1⟩:=PK.tbB I4 O9;refine ⟨⟨by omega,an⟩,_,rfl,_,by rw [a0j,a0y];exact aj,_,rfl,_,Rr,tA hT4 fun H4 F4' Xc Oj=>⟨_,_,rfl,?_⟩⟩;rw [ym b9] at Xc ⊢;obtain ⟨⟨F5,Rs,TW⟩,Vc⟩:=O1 H4 F4' _ Xc Oj;refine CS ⟨by simp only;omega,by simp only;omega⟩ ⟨_,_,rfl,eN (by decide) ⟨_,rfl,?_⟩⟩;refine ⟨fun w H'=>w=[ac (if i=0 then 4 else 16)]∧H'=H4,?_,?_⟩
  ·rw [bq,ae];refine aD (fun h0=>eN (by decide) ⟨_,rfl,?_,rfl⟩) fun h0=>⟨?_,rfl⟩
   ·rw [a0b (by omega)];rfl
   ·rw [a0a (by omega)];rfl
  rintro w H4' ⟨rfl,rfl⟩ _;refine ⟨_,rfl,eN (by decide) ⟨_,rfl,eN (by decide) ⟨_,rfl,eN (by decide) ⟨_,rfl,lT (by decide) ⟨_,rfl,?_⟩⟩⟩⟩⟩;rw [e1',e4];refine lT ⟨by omega,by omega⟩ ⟨_,rfl,?_⟩;have fq:=(Fr.push [] H4' (.cells (az (fU i)).toArray 26));have hW:Rd 1 (H4'.push (.cells (az (fU i)).toArray 26)) (some ⟨H4'.size,0,none⟩) 7 (az (fU i)):=jm (cs:=fU i);have Xd:rM (H4'.push (.cells (az (fU i)).toArray 26)) (some ⟨H4'.size,0,none⟩) F5:=fun p hp=>by
   cases hp;exact ⟨by simp,fun hm=>absurd (Rs.lt _ hm) (a2B _)⟩
  have SH:=Rs.nil fq;have SC:HB (H4'.push (.cells (az (fU i)).toArray 26)) b sb0 hb:=HB.nil Vc fq;show ∃(I38:List Value->au->Prop) (μ38:List Value->au->Nat),I38 [ac 0] (H4'.push (.cells (az (fU i)).toArray 26))∧_;generalize (H4'.push (.cells (az (fU i)).toArray 26))=H6 at fq hW Xd SH SC ⊢;refine ⟨fun w H'=>∃(k:Nat) (r:RH),w=[ac k]∧k<=7∧PK H' b F5 { s with h:=r } ⟨4096,cI.take (i+1)⟩∧HB H' b sb0 hb∧Fr F5 H6 H'∧r.lay (4+i) k ((fU i).drop k)=(kI s.h i).lay (4+i) 0 (fU i)∧∀ j x,aT r.objs j=some x->x.fmt=0,fun w _=>match w with
   | [.int _ k]=>(7-k).toNat
   | _=>0,⟨0,kI s.h i,rfl,by decide,SH,SC,Fr.refl _ _,rfl,sV S3 i⟩,?_⟩
  rintro w H7 ⟨k,r,rfl,hk7,RL,Tr,J7,D4,hr⟩ _;refine ⟨_,rfl,?_⟩;rw [ae];refine aD (fun Od=>?_) fun Od=>?_
  ·have Vt:k<(fU i).length:=by show k<7;omega
   obtain ⟨p,hp,aj,JS⟩:=(hW.fr' J7 fun p hp=>(Xd p hp).2).int (i:=(k:Int)) (by omega) (by omega);cases hp;rw [a0j] at aj JS;have hx:(fU i).getD k 0=(fU i)[k]:=by simp [Vt]
   rw [hx] at aj;have ed:(fU i).drop k=(fU i)[k] :: (fU i).drop (k+1):=a1S Vt;have ek:IntKind.wrap .i64 ((k:Int)+1)=((k+1:Nat):Int):=by rw [ao (by omega) (by omega)];omega
   obtain ⟨F8,Xe,O2,S7⟩:=PK.hp RL Tr;refine ⟨⟨by omega,Od⟩,_,rfl,_,by rw [a0j,a0y];exact aj,rz Xe (hr _) fun H9 Vu On=>⟨_,rfl,?_⟩⟩;obtain ⟨J8,Rp⟩:=S7 H9 _ Vu On;rw [ek];refine ⟨⟨k+1,(r.put (4+i) k (fU i)[k]).2,rfl,by omega,J8,Rp,J7.trans (On.mono O2),?_,pS hr _ _ _⟩,by simp;omega⟩;rw [←D4,ed];rfl
  ·have hk:k=7:=by omega
   subst hk;have hz:(fU i).drop 7=[]:=rfl;rw [hz] at D4;simp only [RH.lay] at D4;subst D4;refine eN ⟨by omega,by omega⟩ ⟨_,rfl,?_⟩;obtain ⟨F8,Xe,O2,S7⟩:=PK.hp RL Tr;refine rz Xe (hr _) fun H9 Vu On=>⟨_,rfl,?_⟩;obtain ⟨J8,Rp⟩:=S7 H9 _ Vu On;rw [show (i:Int)+1=((i+1:Nat):Int) by omega];refine ⟨⟨i+1,F5,rfl,by omega,J8,Rp,?_⟩,by simp;omega⟩;exact (J0.trans TW).trans ((Up.of_nil fq).trans ⟨J7.trans (On.mono O2),fun _ h=>.inl h⟩)
 ·have S8:i=14:=by omega
  subst S8;have fq:=(Fr.push [] H3 (.cells (az [20,18,18,18,1,2,3]).toArray 3));have hW:Rd 1 (H3.push (.cells (az [20,18,18,18,1,2,3]).toArray 3)) (some ⟨H3.size,0,none⟩) 7 (az [20,18,18,18,1,2,3]):=jm (cs:=[20,18,18,18,1,2,3]);have Xd:rM (H3.push (.cells (az [20,18,18,18,1,2,3]).toArray 3)) (some ⟨H3.size,0,none⟩) F3:=fun p hp=>by
   cases hp;exact ⟨by simp,fun hm=>absurd (I4.lt _ hm) (a2B _)⟩
  have SH:=I4.nil fq;have SC:HB (H3.push (.cells (az [20,18,18,18,1,2,3]).toArray 3)) b sb0 hb:=HB.nil O9 fq;show ∃(I38:List Value->au->Prop) (μ38:List Value->au->Nat),I38 [ac 0] (H3.push (.cells (az [20,18,18,18,1,2,3]).toArray 3))∧_;generalize (H3.push (.cells (az [20,18,18,18,1,2,3]).toArray 3))=H6 at fq hW Xd SH SC ⊢;refine ⟨fun w H'=>∃(k:Nat) (r:RH),w=[ac k]∧k<=7∧PK H' b F3 { s with h:=r } jp∧HB H' b sb0 hb∧Fr F3 H6 H'∧r.lay 19 k (sP.drop k)=cy s.h∧∀ j x,aT r.objs j=some x->x.fmt=0,fun w _=>match w with
   | [.int _ k]=>(7-k).toNat
   | _=>0,⟨0,kI s.h 14,rfl,by decide,by rw [show jp=⟨4096,cI.take 14⟩ from rfl];exact SH,SC,Fr.refl _ _,by rw [cy];rfl,sV S3 14⟩,?_⟩
  rintro w H7 ⟨k,r,rfl,hk7,RL,Tr,J7,D4,hr⟩ _;refine ⟨_,rfl,?_⟩;rw [ae];refine aD (fun Od=>?_) fun Od=>?_
  ·have Vt:k<7:=by omega
   obtain ⟨p,hp,aj,JS⟩:=(hW.fr' J7 fun p hp=>(Xd p hp).2).int (i:=(k:Int)) (by omega) (by omega);cases hp;rw [a0j] at aj JS;have ek:IntKind.wrap .i64 ((k:Int)+1)=((k+1:Nat):Int):=by rw [ao (by omega) (by omega)];omega
   have hx:1<=([20,18,18,18,1,2,3]:List Int).getD k 0∧([20,18,18,18,1,2,3]:List Int).getD k 0<=65536∧sP.drop k=4*([20,18,18,18,1,2,3]:List Int).getD k 0 :: sP.drop (k+1):=by
    rcases k with _ | _ | _ | _ | _ | _ | _ | k
    all_goals first | exact ⟨by decide,by decide,by decide⟩ | omega
   obtain ⟨F8,Xe,O2,S7⟩:=PK.hp RL Tr;refine ⟨⟨by omega,Od⟩,_,rfl,_,by rw [a0j,a0y];exact aj,eN ⟨hx.1,hx.2.1⟩ ⟨_,rfl,rz Xe (hr _) fun H9 Vu On=>⟨_,rfl,?_⟩⟩⟩;obtain ⟨J8,Rp⟩:=S7 H9 _ Vu On;rw [ek];refine ⟨⟨k+1,_,rfl,by omega,J8,Rp,J7.trans (On.mono O2),?_,pS hr _ _ _⟩,by simp;omega⟩;rw [←D4,hx.2.2];rfl
  ·have hk:k=7:=by omega
   subst hk;have hz:sP.drop 7=[]:=rfl;rw [hz] at D4;have Xf:r=cy s.h:=D4;rw [Xf] at RL;have S4:Up F3 H3 F3 H7:=(Up.of_nil fq).trans ⟨J7,fun _ h=>.inl h⟩;have SI:Up F H F3 H7:=((Up.of_nil fp).trans J0).trans S4;exact h H7 F3 RL Tr SI
end
section
def fj:List (Int × Int)->List Value
 | []=>[]
 | (c,n) :: l=>ac c :: ac n :: fj l
theorem nP (l m:List (Int × Int)):fj (l++m)=fj l++fj m:=by
 induction l with
 | nil=>rfl
 | cons x l ih=>obtain ⟨c,n⟩:=x;simp [fj,ih]
theorem A5 (l:List (Int × Int)):(fj l).length=2*l.length:=by
 induction l with
 | nil=>rfl
 | cons x l ih=>obtain ⟨c,n⟩:=x;simp only [fj,a1b,ih];omega
theorem zP (l:List (Int × Int)):∀ v∈fj l,dJ v=true:=by
 induction l with
 | nil=>intro v hv;cases hv
 | cons x l ih =>
  obtain ⟨c,n⟩:=x;intro v hv;simp only [fj,a0E] at hv;rcases hv with rfl | rfl | hv
  ·rfl
  ·rfl
  ·exact ih v hv
theorem zI {l:List (Int × Int)}{i:Nat} (h:i<l.length):(fj l)[i*2]?=some (ac l[i].1)∧(fj l)[i*2+1]?=some (ac l[i].2):=by
 induction l generalizing i with
 | nil=>simp at h
 | cons x l ih =>
  obtain ⟨c,n⟩:=x;cases i with
  | zero=>simp [fj]
  | succ i =>
   have:=ih (i:=i) (by simpa using h);have e:(i+1)*2=i*2+2:=by omega
   rw [e];simpa [fj] using this
theorem mg (r:RH) (x:Int × Int) (l:List (Int × Int)):r.allocAll (x :: l)=if (r.alloc (4*x.1) x.2 0).1.2≠0 then ((r.alloc (4*x.1) x.2 0).1.2,(r.alloc (4*x.1) x.2 0).2) else RH.allocAll (r.alloc (4*x.1) x.2 0).2 l:=by
 obtain ⟨c,n⟩:=x;rfl
theorem sA (words oops:Int):cy (((cC words oops).allocAll ba).2)=bL words oops:=rfl
theorem Al {words oops:Int} (hz:((cC words oops).allocAll ba).1=0):((cC words oops).allocAll ba).2.objs=cH:=by
 rw [jI ba (r:=cC words oops) rfl hz];rfl
theorem sH {words oops:Int} (hw:WFH (bL words oops)) (hz:((cC words oops).allocAll ba).1=0):((bL words oops).clsAt 19).2=0:=by
 obtain ⟨x,hx,_⟩:=yH hw hz (p:=(19,[80,72,72,72,4,8,12,4])) (by decide);unfold RH.clsAt;simp only at hx;rw [hx]
attribute [local irreducible] bL cy cH
section
variable {H:au}{Q:QT}
theorem rI:∀ i (hi:i<ba.length),1<=(ba[i]).1∧(ba[i]).1<=65536:=by decide
theorem KI {words oops:Int} (hk:eM H) (gw:¬ (0<=words∧words<=1048576∧0<=oops∧oops<=65536)->Q (.tuple #[.pointer none,ac 1]) H)
  (h1:(0<=words∧words<=1048576∧0<=oops∧oops<=65536)->((cC words oops).allocAll ba).1≠0->∀ H',Fr [] H H'->Q (.tuple #[.pointer none,ac ((cC words oops).allocAll ba).1]) H')
  (h2:(0<=words∧words<=1048576∧0<=oops∧oops<=65536)->((cC words oops).allocAll ba).1=0->∀ b F H',PK H' b F (kQ words oops) jp->Fr [] H H'->(∀ x∈F,H.size<=x)->Q (.tuple #[QW b,ac 0]) H') :
  ag PP 23 #[ac words,ac oops] Q H:=by
 have i7:bd PP 121=some (2,16,some (.agg #[ac 0,ac 0])):=by kernel_rfl
 apply MN;dsimp only [aL,aN,aC,cq,du,ah,ak,fN,fe,aX,ay,bc,ac,bf,bX,cL,av,bm,am,aJ,bM,ax,bj,bJ,aI];refine Gh hk (fun hb=>⟨_,_,rfl,gw hb⟩) fun hg sb F1 H1 Om bw Jx=>⟨_,_,rfl,?_⟩;simp only [show ((0:Int) != 0)=false from rfl,a0f];have h1:=h1 hg;have h2:=h2 hg;refine Hg (fun hb=>absurd ⟨by decide,by decide⟩ hb) fun _ tb F2 H2 So fa D3=>⟨_,_,rfl,?_⟩;simp only [show ((0:Int) != 0)=false from rfl,a0f];have yB:=bw.trans fa;have J2:=Om.nilfr fa;have Tp:=hk.lt;have I4:PK (H2.push (.cells #[QW sb,QW tb] 65)) H2.size (H2.size :: (F1++F2)) ⟨cC words oops,0,[],false,0,0,0⟩ ⟨4096,[]⟩:=by
  have fp:=Fr.push [] H2 (.cells #[QW sb,QW tb] 65);have l1:=J2.lt;have l1':=Om.lt;have l2:=So.lt;refine ⟨sb,tb,F1,F2,rfl,fun hm=>absurd (l1 _ hm) (a2B _),fun hm=>absurd (l2 _ hm) (a2B _),fun x hx At=>?_,?_,fun hm=>?_,bI.new _ _ _,J2.nilfr fp,So.fr fp (bU.nil_right _)⟩
  ·have:=D3 x At;have:=l1' x hx;omega
  ·have:=yB.1;omega
  ·have:=D3 _ hm;have:=bw.1;omega
 have l7:Fr [] H (H2.push (.cells #[QW sb,QW tb] 65)):=yB.more;have J3:∀ x∈H2.size :: (F1++F2),H.size<=x:=fun x hx=>by
  rcases a0E.1 hx with rfl | hx
  ·exact yB.1
  ·rcases a0T.1 hx with hx | hx
   ·exact Jx x hx
   ·exact a0O bw.1 (D3 x hx)
 generalize hH3:(H2.push (.cells #[QW sb,QW tb] 65))=H3 at I4 l7 ⊢;generalize (H2.size :: (F1++F2))=F3 at I4 J3;apply Cw;dsimp only [aL,av,aJ,aO];refine ⟨_,_,_,rfl,?_⟩;have JS:=I4.lt;have hO0:bZ 2 (H3.push (.cells (fj [(5,0),(6,0),(7,0)]).toArray 120)) (some ⟨H3.size,0,none⟩) 3 3 (fj [(5,0),(6,0),(7,0)]) [H3.size]:=⟨rfl,a0U _,.inr ⟨H3.size,_,rfl,rfl,bI.new _ _ _,rfl,rfl⟩⟩;have fq:Fr [] H3 (H3.push (.cells (fj [(5,0),(6,0),(7,0)]).toArray 120)):=Fr.push _ _ _;generalize hH4:(H3.push (.cells (fj [(5,0),(6,0),(7,0)]).toArray 120))=H4 at hO0 fq;have Vh:bZ 2 (H4.push (.cells (bC cI).toArray 9)) (some ⟨H3.size,0,none⟩) 3 3 (fj [(5,0),(6,0),(7,0)]) [H3.size]:=hO0.fr (Fr.push [] _ _) (by simp);have fr1:Fr [] H3 (H4.push (.cells (bC cI).toArray 9)):=fq.more;show ∃(I11:List Value->au->Prop) (μ11:List Value->au->Nat),I11 [.slice (some ⟨H3.size,0,none⟩) 3 3,ac 0] ((H3.push (.cells (fj [(5,0),(6,0),(7,0)]).toArray 120)).push (.cells (bC cI).toArray 9))∧_;rw [hH4];generalize (H4.push (.cells (bC cI).toArray 9))=H5 at Vh fr1 ⊢;refine ⟨fun w H'=>∃(i:Nat) (a:Option Addr) (l c:Nat) (G:aS),w=[.slice a l c,ac i]∧i<=14∧bZ 2 H' a l c (fj ([(5,0),(6,0),(7,0)]++List.replicate i (12,7))) G∧Fr [] H3 H'∧(∀ x∈G,H3.size<=x),fun w _=>match w with
  | [_,.int _ i]=>(14-i).toNat
  | _=>0,⟨0,_,_,_,_,rfl,by decide,Vh,fr1,by simp⟩,?_⟩
 rintro w H6 ⟨i,a,l,c,G,rfl,hi,ho,Jo,hG⟩ _;have hl:l=3+i:=by have:=ho.len;rw [A5] at this;simp at this;omega
 refine ⟨_,_,_,_,rfl,?_⟩;rw [ae];refine aD (fun an=>?_) fun an=>?_
 ·have e1:IntKind.wrap .i64 ((i:Int)+1)=((i+1:Nat):Int):=by rw [ao (by omega) (by omega)];omega
  refine bK i7 rfl (by kernel_rfl) ho rfl (by simp [dJ]) (by omega) (by decide) (by decide) fun a' c' G2 H7 g1 g2 g3=>⟨_,_,_,rfl,?_⟩;obtain ⟨f7,hG7⟩:=Up.fresh Jo g2 hG;rw [e1];refine ⟨⟨i+1,a',l+1,c',G2,rfl,by omega,?_,f7,hG7⟩,by simp;omega⟩;rw [List.replicate_succ',←a18,nP];exact g1
 have S8:i=14:=by omega
 subst S8;have fl:Fr [] H6 (H6.push (.cells (fj [(11,0),(11,8),(11,14)]).toArray 120)):=Fr.push _ _ _;refine dz (l2:=3) (ys:=fj [(11,0),(11,8),(11,14)]) i7 rfl (by kernel_rfl) (ho.fr fl (by simp)) ⟨rfl,(fun h=>by cases h),fun p hp k JL=>?_⟩ (zP _) (by omega) (by decide) (by decide) fun a' c' G2 H7 g1 g2 g3=>⟨_,_,_,rfl,?_⟩
 ·cases hp;rw [aB,a0K];exact ((bI.new H6 (fj [(11,0),(11,8),(11,14)]).toArray 120).cell k).trans (by simp)
 obtain ⟨f7,hG7⟩:=Up.fresh (Jo.trans fl) g2 hG;rw [←nP] at g1;have ep:[(5,0),(6,0),(7,0)]++List.replicate 14 (12,7)++[(11,0),(11,8),(11,14)]=ba:=rfl;rw [ep] at g1;subst hl;have hr7:Rd 2 H7 a' 20 (fj ba):=g1.rd;have ho7:rM H7 a' F3:=fun p hp=>by
  have an:=g1.lt;rcases g1.2.2 with ⟨h3,_⟩ | ⟨b',cs,h3,h4,_⟩
  ·rw [h3] at hp;cases hp
  ·rw [h3] at hp;cases hp;have k9:b'∈G2:=by rw [h4];simp
   exact ⟨an _ k9,fun hm=>by have h5:=hG7 _ k9;have h6:=JS _ hm;simp only at h6;omega⟩
 have RL:=I4.nil f7;have JO:aq H3 ⟨H2.size,0,none⟩=some (QW sb):=by rw [←hH3];exact (bI.new H2 _ _).cell 0
 have hc7:aq H7 ⟨H2.size,0,none⟩=some (QW sb):=by rw [cM f7 (by simp) (eK JO)];exact JO
 have J7:=l7.trans f7;have Zy:ba.length=20:=rfl;refine ⟨fun w H'=>∃(k:Nat) (r:RH) (st:List Int) (F':aS),w=[ac k]∧k<=20∧PK H' H2.size F' ⟨r,0,st,false,0,0,0⟩ ⟨4096,[]⟩∧Up F3 H7 F' H'∧st.length=k∧aq H' ⟨H2.size,0,none⟩=some (QW sb)∧r.allocAll (ba.drop k)=(cC words oops).allocAll ba,fun w _=>match w with
  | [.int _ k]=>(20-k).toNat
  | _=>0,⟨0,_,_,_,rfl,by decide,RL,Up.refl _ _,rfl,hc7,rfl⟩,?_⟩
 rintro w H8 ⟨k,r,st,F8,rfl,a08,Sp,SJ,s8,hcb,b8⟩ _;refine ⟨_,rfl,?_⟩;rw [ae];refine aD (fun an=>?_) fun an=>?_
 ·have Od:k<ba.length:=by omega
  have e1:IntKind.wrap .i64 ((k:Int)+1)=((k+1:Nat):Int):=by rw [ao (by omega) (by omega)];omega
  have Uv:Rd 2 H8 a' 20 (fj ba):=hr7.fr' SJ.1 fun p hp=>(ho7 p hp).2;have Zz:=rI k Od;obtain ⟨q0,q1⟩:=zI Od;have ed:ba.drop k=ba[k] :: ba.drop (k+1):=a1S Od;rw [ed] at b8;have VP:∃ q,a'=some q:=by
   cases ha:a' with
   | none=>have:=Uv.2.1 ha;omega
   | some q=>exact ⟨q,rfl⟩
  obtain ⟨q,rfl⟩:=VP;have c0:=Uv.2.2 q rfl (k*2) (by omega);have c1:=Uv.2.2 q rfl (k*2+1) (by omega);rw [q0] at c0;rw [q1] at c1;have eadd:(q.add (k*2)).add 1=q.add (k*2+1):=Addr.add_add _ _ _;refine ⟨⟨by omega,by omega⟩,_,rfl,_,by rw [a0j];exact c0,_,by rw [a0j,eadd];exact c1,?_⟩;have fpx:Fr [] H8 (H8.push (.cells #[ac 0,ac 0] 120)):=Fr.push _ _ _;have TS:=bI.new H8 #[ac 0,ac 0] 120;generalize (H8.push (.cells #[ac 0,ac 0] 120))=H9 at fpx TS ⊢;have Rp:=(TS.set 0 (ac (ba[k]).1)).set 1 (ac (ba[k]).2);have f9:Fr [] H8 (aQ (aQ H9 ⟨H8.size,0,none⟩ (ac (ba[k]).1)) ⟨H8.size,1,none⟩ (ac (ba[k]).2)):=Fr.late (Fr.late fpx (a0U _)) (a0U _);refine ⟨TS.wr (o:=0) (by simp),(TS.set 0 _).wr (o:=1) (by simp),?_⟩;show ∃ n25:Int,aq (aQ (aQ H9 ⟨H8.size,0,none⟩ (ac (ba[k]).1)) ⟨H8.size,1,none⟩ (ac (ba[k]).2)) ⟨H8.size,0,none⟩=some (ac n25)∧∃ n26:Int,aq (aQ (aQ H9 ⟨H8.size,0,none⟩ (ac (ba[k]).1)) ⟨H8.size,1,none⟩ (ac (ba[k]).2)) ⟨H8.size,1,none⟩=some (ac n26)∧ag PP 44 _ _ (aQ (aQ H9 ⟨H8.size,0,none⟩ (ac (ba[k]).1)) ⟨H8.size,1,none⟩ (ac (ba[k]).2));generalize (aQ (aQ H9 ⟨H8.size,0,none⟩ (ac (ba[k]).1)) ⟨H8.size,1,none⟩ (ac (ba[k]).2))=HA at Rp f9 ⊢;have Uw:=Sp.nil f9;obtain ⟨sbA,FA,Ux,Xg,S9,hbA,Xh,Xi⟩:=Uw.sp;have esb:sbA=sb:=by rw [cM f9 (by simp) (eK hcb),hcb] at Ux;simpa using Ux.symm
  subst esb;refine ⟨_,Rp.cell 0,_,Rp.cell 1,eQ Xg fun hb FB hRB O3 Vv=>⟨_,rfl,⟨⟨Rp.cell 1,trivial⟩,⟨Rp.cell 0,trivial⟩,trivial⟩,eN Zz ⟨_,rfl,⟨⟨Rp.cell 1,trivial⟩,trivial⟩,tQ hRB fun HB' a1c Uy=>⟨_,_,rfl,trivial,?_⟩⟩⟩⟩;have ZA:=Vv HB' _ a1c Uy;have Sq:=Xi HB' _ ZA (Uy.mono O3);have Xj:Up F8 HA F8 HB':=⟨(Uy.mono O3).mono S9,fun _ h=>.inl h⟩;have hu8B:Up F3 H7 F8 HB':=SJ.trans ((Up.of_nil f9).trans Xj);rw [mg] at b8;rw [bn,ae];refine aD (fun he=>?_) fun he=>?_
  ·rw [a0b he] at b8;have e0:((cC words oops).allocAll ba).1=(r.alloc (4*(ba[k]).1) (ba[k]).2 0).1.2:=by rw [←b8]
   have:=h1 (by rw [e0];exact he) HB' ?_
   ·rw [e0] at this;exact this
   ·exact (Up.fresh J7 hu8B J3).1
  rw [a0a he] at b8;have hz:(r.alloc (4*(ba[k]).1) (ba[k]).2 0).1.2=0:=a0v he;have OQ:=nR Sp.wfs.h hz;refine eN ⟨OQ.2.1,OQ.2.2.1⟩ ⟨_,rfl,?_⟩;have fpy:Fr [] HB' (HB'.push (.cells #[ac (4*(r.alloc (4*(ba[k]).1) (ba[k]).2 0).1.1)] 26)):=Fr.push _ _ _;have Xk:=Sq.nil fpy;obtain ⟨sbC,FC,ZB,Vw,hsubC,hbC,Vx,_⟩:=Xk.sp;have Xl:aq HB' ⟨H2.size,0,none⟩=some (QW sbA):=by rw [cM Uy (fun hm=>hbA (O3 _ hm)) (eK Ux)];exact Ux
  have hcP:=cM fpy (b:=H2.size) (o:=0) (by simp) (eK Xl);rw [Xl] at hcP;have esb:sbC=sbA:=by rw [hcP] at ZB;simpa using ZB.symm
  subst esb;have O8:=tf (s:=⟨(r.alloc (4*(ba[k]).1) (ba[k]).2 0).2,0,st,false,0,0,0⟩) (dN OQ.2.1 OQ.2.2.1) (by show st.length<65536;omega);refine rj Vw (jm (cs:=[4*(r.alloc (4*(ba[k]).1) (ba[k]).2 0).1.1])) (by decide) fun HD FD hSD ZC=>⟨_,rfl,?_⟩;rw [O8] at hSD ⊢;simp only [show ((0:Int) != 0)=false from rfl,a0f];obtain ⟨FE,hKE,huE⟩:=Vx HD FD _ hSD ZC;rw [e1];exact ⟨⟨k+1,_,_,FE,rfl,by omega,hKE,hu8B.trans ((Up.of_nil fpy).trans huE),by simp [s8],by rw [cM ZC.1 hbC (eK ZB)];exact ZB,b8⟩,by simp;omega⟩
 ·have Ta:k=20:=by omega
  subst Ta;have ez:ba.drop 20=[]:=rfl;rw [ez] at b8;have O4:(0,r)=(cC words oops).allocAll ba:=b8;have hz:((cC words oops).allocAll ba).1=0:=by rw [←O4]
  have Xm:r=((cC words oops).allocAll ba).2:=by rw [←O4]
  have hbH:cy r=bL words oops:=by rw [Xm];exact sA _ _
  have hro:r.objs=cH:=by rw [Xm];exact Al hz
  obtain ⟨sb8,F9,hc8,hS8,_⟩:=Sp.sp;obtain ⟨Oh,_,_,hcx,_⟩:=hS8.upd;have esb8:sb8=sb:=by rw [hcb] at hc8;simpa using hc8.symm
  subst esb8;refine NT Sp ⟨hc8,hcx⟩ (fun j x hx=>?_) fun H9 FA Uw hBA Vy=>⟨rfl,?_⟩
  ·rw [hro] at hx;exact of_decide_eq_true (a2N.1 Ag x (aR hx).1)
  have Xn:PK H9 H2.size FA ⟨bL words oops,0,st,false,0,0,0⟩ jp:=by rw [←hbH];exact Uw
  obtain ⟨sbA,F10,Ux,Xg,S9,hbA,_,Xh⟩:=Xn.sp;have esb:sbA=sb8:=by have:=hBA.1;rw [Ux] at this;simpa using this
  subst esb;have pe:WFH (bL words oops):=Xn.wfs.h;have D7:((bL words oops).clsAt 19).2=0:=sH pe hz;refine zF Xg fun HB ZA Uy=>⟨_,rfl,?_⟩;have ecr:(SP.crown ⟨bL words oops,0,st,false,0,0,0⟩ 19)=(0,⟨bL words oops,19,st,false,0,0,0⟩):=by
   unfold SP.crown;rw [a0a (by simpa using D7)]
  rw [ecr] at ZA;have Sq:=Xh HB _ ZA Uy;obtain ⟨sbB,F11,hcB,a1g,O3,_,_,Vv⟩:=Sq.sp;have esb:sbB=sbA:=by rw [cM Uy hbA (eK Ux),Ux] at hcB;simpa using hcB.symm
  subst esb;refine qk a1g ⟨by decide,by decide⟩ fun HC Vw ZD=>⟨_,rfl,?_⟩;have edr:(SP.drop ⟨bL words oops,19,st,false,0,0,0⟩ ((20:Nat):Int))=(0,kQ words oops):=by
   unfold SP.drop;rw [a0a (by simp only [s8];decide)];simp [s8,kQ]
  have e20:((3+14+3:Nat):Int)=((20:Nat):Int):=rfl;rw [edr] at Vw;have Xk:=Vv HC _ Vw ZD;have huC:Up F3 H7 FA HC:=(SJ.trans Vy).trans ⟨(Uy.mono S9).trans (ZD.mono O3),fun _ h=>.inl h⟩
  have:=Up.fresh J7 huC J3;exact h2 hz H2.size FA HC Xk this.1 this.2
end
end
end Go.Proofs.YtgjfejoohojokaaGreatDoor
namespace Kw
open Go
section
theorem Dl (s:SP) (ws:List Int):(s.keepW ws).2.h=s.h:=by
 unfold SP.keepW;split
 ·rfl
 split <;> rfl
theorem xf (s:SP) (n:Int):(s.drop n).2.h=s.h:=by
 unfold SP.drop;split <;> rfl
theorem sB {s:SP}{r:RH}{P:Int->Prop} (h:co r s.h P) (t:TB) (m c k e:Int):co r (pA s t m c k e).1.h P:=by
 unfold pA;split
 ·rw [xf];exact h
 ·show co r (if e=24 then s.h else (s.h.marks m).2) P;split
  ·exact h
  ·exact h.trans ((lk m).mono fun _ _=>trivial)
attribute [local irreducible] bL
end
section
attribute [local irreducible] bL cy cH
section
attribute [local semireducible] bL cy cH
end
theorem mR.same1 {r r':RH}{k j:Int}{xs:List Int} (h:mR r j xs) (hs:qs r r' k) (hk:j≠k):mR r' j xs:=by
 obtain ⟨o,h1,h2⟩:=h;exact ⟨o,by rw [hs j hk];exact h1,h2⟩
theorem mR.at {r:RH}{k:Int}{xs:List Int} (h:mR r k xs):aT r.objs k≠none:=by
 obtain ⟨o,h1,_⟩:=h;rw [h1];simp
theorem mR.uniq {r:RH}{k:Int}{xs ys:List Int} (h:mR r k xs) (h':mR r k ys):xs=ys:=by
 obtain ⟨o,h1,_,_,rfl⟩:=h;obtain ⟨o',h2,_,_,rfl⟩:=h';rw [h1] at h2;cases h2;rfl
abbrev Qx:=Int × Int × List Int
def ob (r:RH) (k:Int):Option Qx:=(aT r.objs k).map fun o=>(o.cls,o.fmt,o.slots)
theorem dg {r:RH}{k c f:Int}{l:List Int}:ob r k=some (c,f,l)↔∃ o,aT r.objs k=some o∧o.cls=c∧o.fmt=f∧o.slots=l:=by
 unfold ob;constructor
 ·intro h;obtain ⟨o,h1,h2⟩:=a3P.1 h;simp only [Prod.mk.injEq] at h2;exact ⟨o,h1,h2⟩
 ·rintro ⟨o,h1,rfl,rfl,rfl⟩;rw [h1];rfl
theorem lR {r:RH}{k:Int}:ob r k=none↔aT r.objs k=none:=by
 unfold ob;simp
theorem co.ob {r r':RH}{P:Int->Prop} (h:co r r' P){k:Int} (hp:P k){x:Qx} (hx:ob r k=some x):ob r' k=some x:=by
 obtain ⟨c,f,l⟩:=x;obtain ⟨o,h1,rfl,rfl,rfl⟩:=dg.1 hx;obtain ⟨y,g1,g2,g3,g4⟩:=h k hp o h1;exact dg.2 ⟨y,g1,g2,g3,g4⟩
theorem wh:∀ (l:List RO) (a k:Int),((aT (cF a l) k).map fun o=>(o.cls,o.fmt,o.slots))=(aT l k).map fun o=>(o.cls,o.fmt,o.slots)
 | [],_,_=>rfl
 | o :: l,a,k=>by
  have ih:=wh l (a+o.len) k;unfold aT at ih ⊢;simp only [cF,a3u];split
  ·rename_i h
   have:decide (o.oop=k)=true:=h;simp [this]
  ·rename_i h
   have:decide (o.oop=k)=false:=h;simp only [this];exact ih
theorem ma {r:RH}{l:List Int} (b8:∀ k∈l,aT r.objs k≠none){k:Int}{x:Qx} (h:ob (r.keep l).2 k=some x):ob r k=some x∧k∈l:=by
 unfold RH.keep at h;rw [a0a (by rintro ⟨k,h1,h2⟩;exact b8 k h1 h2)] at h;unfold ob at h;simp only [RH.keepO] at h;rw [wh] at h;obtain ⟨o,h1,h2⟩:=a3P.1 h;have hm:=aR h1;have hf:=a2l.1 hm.1;have hk:k∈l:=by have:=of_decide_eq_true hf.2;rw [hm.2] at this;exact this
 refine ⟨?_,hk⟩;unfold ob
 have:aT r.objs k=some o:=by
  unfold aT at h1 ⊢;rw [List.find?_filter] at h1;rw [←h1]
  congr 1
  funext a
  by_cases ha:a.oop=k
  ·simp [ha,hk]
  ·simp [ha]
 rw [this,←h2];rfl
theorem eY {r:RH} (hw:WFH r) (c n f:Int):(∀ k x,ob r k=some x->ob (r.alloc c n f).2 k=some x) ∧
  ((r.alloc c n f).1.2≠0->∀ k x,ob (r.alloc c n f).2 k=some x->ob r k=some x) ∧
  ((r.alloc c n f).1.2=0->ob r (r.alloc c n f).1.1=none∧1<=(r.alloc c n f).1.1∧(r.alloc c n f).1.1<=65536∧ob (r.alloc c n f).2 (r.alloc c n f).1.1=some (c,f,List.replicate n.toNat (if f=1 then 0 else 4))∧∀ k x,k≠(r.alloc c n f).1.1->ob (r.alloc c n f).2 k=some x->ob r k=some x):=by
 refine ⟨fun k x h=>(lE hw c n f).ob trivial h,fun he=>?_,fun he=>?_⟩
 ·unfold RH.alloc at he ⊢;split
  ·exact fun _ _ h=>h
  split
  ·exact fun _ _ h=>h
  split
  ·exact fun _ _ h=>h
  split
  ·exact fun _ _ h=>h
  ·rename_i g1 g2 g3 g4;rw [a0a g1,a0a g2,a0a g3,a0a g4] at he;exact absurd rfl he
 ·obtain ⟨a1,a2,a3,_⟩:=nR hw he;refine ⟨lR.2 a1,a2,a3,?_⟩;unfold RH.alloc at he a1 ⊢;split at he
  ·cases he
  rename_i g1;split at he
  ·cases he
  rename_i g2;split at he
  ·cases he
  rename_i g3;split at he
  ·cases he
  rename_i g4;rw [a0a g1,a0a g2,a0a g3,a0a g4] at a1 ⊢;simp only at a1 ⊢;refine ⟨dg.2 ⟨ft r c n f,?_,rfl,rfl,rfl⟩,fun k x hk h=>?_⟩
  ·rw [fS,a1];simp [ft]
  ·unfold ob at h ⊢;simp only at h;rw [fS] at h;cases ho:aT r.objs k with
   | some o=>rw [ho] at h;exact h
   | none =>
    rw [ho] at h
    have:¬ (ft r c n f).oop=k:=fun e=>hk e.symm;simp only [a0a this] at h;cases h
structure AllocR (s:SP) (c n f:Int) (res:Int × Int) (s':SP):Prop where
 stk:s'.stack=s.stack
 keep:∀ k,Reaches s.h s.roots k->∀ x,ob s.h k=some x->ob s'.h k=some x
 bad:res.2≠0->∀ k x,ob s'.h k=some x->ob s.h k=some x
 good:res.2=0->∃ o,res.1=4*o∧1<=o∧o<=65536∧ob s'.h o=some (c,f,List.replicate n.toNat (if f=1 then 0 else 4))∧¬ Reaches s.h s.roots o∧∀ k x,k≠o->ob s'.h k=some x->ob s.h k=some x
 surv:(∀ k x,ob s.h k=some x->ob s'.h k=some x)∨(∀ k x,ob s'.h k=some x->(res.2=0∧res.1=4*k)∨Reaches s.h s.roots k)
theorem yK {s:SP}{t:TB}{v:KV} (hv:KAllW s t v){c:Int} (hc:aU c=3) (n f:Int):AllocR s c n f (s.alloc c n f).1 (s.alloc c n f).2∧KAllW (s.alloc c n f).2 t v:=by
 have hw:=hv.ks.wf;have hr:=oU s c n f;have hk:=nh hw c n f;refine ⟨?_,⟨⟨sE hw c n f,te hv.ks.gc hc n f,hr.2.2.trans hv.ks.op,hr.1.trans hv.ks.king,hv.ks.view.keep hk hv.ks.reach,hv.ks.sep,hv.ks.shape⟩,hv.names,by rw [hr.2.1];exact hv.top⟩⟩;refine { stk:=hr.2.1,keep:=fun k h x hx=>hk.ob h hx,bad:=?_,good:=?_,surv:=?_ }
 all_goals unfold SP.alloc
 all_goals split
 ·exact (eY hw.h c n f).2.1
 ·have b8:∀ k∈s.reach,aT s.h.objs k≠none:=fun k hk=>((RH.mem_reach hw.h).1 hk).there;exact fun he k x h=>(ma b8 ((eY (fT hw.h _) c n f).2.1 he k x h)).1
 ·intro he;obtain ⟨a1,a2,a3,a4,a5⟩:=(eY hw.h c n f).2.2 he;exact ⟨_,rfl,a2,a3,a4,fun h=>h.there (lR.1 a1),a5⟩
 ·intro he;have b8:∀ k∈s.reach,aT s.h.objs k≠none:=fun k hk=>((RH.mem_reach hw.h).1 hk).there;obtain ⟨a1,a2,a3,a4,a5⟩:=(eY (fT hw.h _) c n f).2.2 he;refine ⟨_,rfl,a2,a3,a4,fun h=>?_,fun k x hk h=>(ma b8 (a5 k x hk h)).1⟩;cases hx:ob s.h ((s.h.keep s.reach).2.alloc c n f).1.1 with
  | none=>exact h.there (lR.1 hx)
  | some x =>
   have:=(kn s.reach).ob ((RH.mem_reach hw.h).2 h) hx;rw [a1] at this;cases this
 ·exact .inl (eY hw.h c n f).1
 ·refine .inr fun k x h=>?_;have b8:∀ k∈s.reach,aT s.h.objs k≠none:=fun k hk=>((RH.mem_reach hw.h).1 hk).there;by_cases he:((s.h.keep s.reach).2.alloc c n f).1.2=0
  ·obtain ⟨a1,a2,a3,a4,a5⟩:=(eY (fT hw.h _) c n f).2.2 he;by_cases hk:k=((s.h.keep s.reach).2.alloc c n f).1.1
   ·exact .inl ⟨he,by rw [hk]⟩
   ·exact .inr ((RH.mem_reach hw.h).1 (ma b8 (a5 k x hk h)).2)
  ·exact .inr ((RH.mem_reach hw.h).1 (ma b8 ((eY (fT hw.h _) c n f).2.1 he k x h)).2)
def fW (v:KV):List (Int × Int):=(1,20) :: (2,24) :: (3,28) :: (18,44) :: v.cls.map fun c=>(c.oop,48)
def pC (v:KV) (c:Int):Prop:=c=44∨∃ o i,c=4*o∧eR v o=some i∧(o=4∨14<=i)
theorem ef {w:Int} (h:aU w=3):w=4*(w / 4)∧1<=w / 4∧w / 4<=65536:=by
 have:=bE w;omega
theorem rv {r:RH}{w:Int} (h:aU w=3) (ho:ob r (w / 4)≠none):bD r w=w / 4:=by
 have:=ef h;unfold bD;have hn:(aT r.objs (w / 4)).isSome:=by
  cases hx:aT r.objs (w / 4) with
  | none=>exact absurd (lR.2 hx) ho
  | some o=>rfl
 rw [a0b ⟨h,hn⟩]
theorem xc {r:RH}{ws:List Int}{k c w:Int}{l:List Int} (hr:Reaches r ws k) (hx:ob r k=some (c,0,l)) (hw:w∈l) (hk:aU w=3) (hn:ob r (w / 4)≠none):Reaches r ws (w / 4):=by
 obtain ⟨o,h1,h2,h3,h4⟩:=dg.1 hx;have hm:=aR h1
 have:=ef hk
 have:=Reaches.slot (o:=o) (w:=w) (by rw [hm.2];exact hr) hm.1 h3 (by rw [h4];exact hw) (by rw [rv hk hn];omega);rw [rv hk hn] at this;exact this
section
variable {s s':SP}{t:TB}{v:KV}{G:Int->Prop}{res:Int × Int}{c n f:Int}
end
theorem qd {r:RH} (k i w:Int):∀ j,j≠k->ob (r.put k i w).2 j=ob r j:=fun j hj=>by
 unfold ob;rw [sG r k i w j hj]
theorem BB {r:RH}{k c f i w:Int}{l:List Int} (hx:ob r k=some (c,f,l)) (hi:0<=i∧i<l.length) (hw:fv f w):(r.put k i w).1=0∧ob (r.put k i w).2 k=some (c,f,l.set i.toNat w):=by
 obtain ⟨o,h1,rfl,rfl,rfl⟩:=dg.1 hx;unfold RH.put;rw [h1];simp only;rw [a0a (by omega),a0a (fun e=>e hw)];refine ⟨rfl,dg.2 ⟨d8 i w o,?_,rfl,rfl,rfl⟩⟩;show aT (gX r.objs k (d8 i w)) k=_;rw [dH (f:=d8 i w) fun _=>rfl,h1]
 have:=(aR h1).2;simp [this]
theorem KS.putN {s:SP}{v:KV} (h:KS s v){k:Int} (hk:∀ p∈v.roles,p.1≠k) (i w:Int):KS { s with h:=(s.h.put k i w).2 } v :=
 ⟨{ h.wf with h:=kW h.wf.h k i w },xw h.gc k i w,h.op,h.king,h.view.same1 (sG _ _ _ _) hk,h.sep,h.shape⟩
section
variable {s s':SP}{t:TB}{v:KV}{G:Int->Prop}
end
structure PairV (v:KV):Prop where
 pl:eR v 4=some 0∧eR v 5=some 1∧eR v 6=some 2∧eR v 7=some 3∧eR v 8=some 4∧eR v 9=some 5∧eR v 10=some 6∧eR v 11=some 7∧eR v 12=some 8∧eR v 14=some 10∧eR v 17=some 13
 up:∀ i,dG v i=0∨dG v i=4∨∃ j,eR v (dG v i)=some j∧14<=j
theorem tj {v:KV} (hp:PairV v){k o:Int}{i:Nat} (h4:k≠4) (hk:eR v k=some i) (hi:i<14) (h:iR v k o=true):o=k:=by
 have go:∀ n o,nD v k n o=true->o=k:=by
  intro n
  induction n with
  | zero=>intro o h;cases h
  | succ n ih =>
   intro o h;unfold nD at h;split at h
   ·cases h
   split at h
   ·assumption
   split at h
   ·rename_i j _;exfalso;have e:=ih _ h;rcases hp.up j with e2 | e2 | ⟨m,e2,hm⟩
    ·rw [e2] at h;cases n with
     | zero=>cases h
     | succ n=>unfold nD at h;rw [a0b rfl] at h;cases h
    ·exact h4 (e.symm.trans e2)
    ·rw [e,hk] at e2;cases e2;omega
   ·cases h
 exact go _ _ h
theorem Lz {r:RH}{w c f:Int}{l:List Int} (h3:aU w=3) (hx:ob r (w / 4)=some (c,f,l)) (hc:aU c=3):cK r w=c / 4:=by
 obtain ⟨o,ho,rfl,_,_⟩:=dg.1 hx
 have:=ef hc;have eo:mQ r w=(o.cls / 4,0):=by
  unfold mQ;rw [a0a (by omega),a0a (by omega),a0b h3];unfold RH.clsAt;rw [ho];simp only [if_true];unfold d7;rw [a0b hc]
 unfold cK;rw [eo];rfl
theorem mP {r:RH}{w c f:Int}{l:List Int} (h3:aU w=3) (hx:ob r (w / 4)=some (c,f,l)):dl r w=((l.length:Int),f):=by
 obtain ⟨o,ho,_,rfl,rfl⟩:=dg.1 hx;unfold dl;rw [a0b h3];unfold RH.size;rw [ho]
theorem pK {r:RH}{w c f i:Int}{l:List Int} (h3:aU w=3) (hx:ob r (w / 4)=some (c,f,l)) (h0:0<=i) (h1:i<l.length):eU r w i=l.getD i.toNat 0:=by
 obtain ⟨o,ho,_,_,rfl⟩:=dg.1 hx;unfold eU d7;rw [a0b h3];unfold RH.at;rw [ho];simp only;rw [a0a (by omega)]
section
variable {s s':SP}{t t':TB}{v:KV}{G G':Int->Prop}{x:ByteArray}{r:Int}{res:Int × Int}
end
def BO (r:RH) (l:List (Int × Int)):Prop:=∀ p∈l,∃ f sl,ob r p.1=some (p.2,f,sl)
theorem zh {r:RH}{k c f:Int}{l:List Int} (h:ob r k=some (c,f,l)) (j i w:Int):∃ l',ob (r.put j i w).2 k=some (c,f,l'):=by
 by_cases hk:k=j
 ·subst hk;obtain ⟨o,h1,rfl,rfl,rfl⟩:=dg.1 h;unfold RH.put;rw [h1];simp only;split
  ·exact ⟨_,h⟩
  split
  ·exact ⟨_,h⟩
  ·refine ⟨_,dg.2 ⟨d8 i w o,?_,rfl,rfl,rfl⟩⟩;show aT (gX r.objs k (d8 i w)) k=_;rw [dH (f:=d8 i w) fun _=>rfl,h1]
   have:=(aR h1).2;simp [this]
 ·exact ⟨l,(qd j i w k hk).trans h⟩
theorem y8:∀ (ws:List Int){r:RH}{k c f:Int}{l:List Int},ob r k=some (c,f,l)->∀ j i,∃ l',ob (r.lay j i ws) k=some (c,f,l')
 | [],_,_,_,_,l,h,_,_=>⟨l,h⟩
 | w :: ws,_,_,_,_,_,h,j,i=>by
  obtain ⟨l',h'⟩:=zh h j i w;exact y8 ws h' j (i+1)
theorem xY {s:SP} (hw:WFS s){c n f:Int} (he:(s.alloc c n f).1.2=0):∃ o l,(s.alloc c n f).1.1=4*o∧ob (s.alloc c n f).2.h o=some (c,f,l):=by
 unfold SP.alloc at he ⊢;split at he
 ·rename_i hc;rw [a0b hc];obtain ⟨a1,a2,a3,a4,a5⟩:=(eY hw.h c n f).2.2 he;exact ⟨_,_,rfl,a4⟩
 ·rename_i hc;rw [a0a hc];obtain ⟨a1,a2,a3,a4,a5⟩:=(eY (fT hw.h _) c n f).2.2 he;exact ⟨_,_,rfl,a4⟩
theorem Bl {s:SP}{v:KV} (hk:KS s v) (s8:s.stack.length<65536){cls:Int} (J1:1<=cls∧cls<=65536){ws:List Int} (Do:∀ w∈ws,dL w) (e:(s.make cls ws).1.2=0) :
  ∃ o,(s.make cls ws).1.1=4*o∧1<=o∧o<=65536∧(s.make cls ws).2.stack=s.stack++[4*o]∧∃ f l,ob (s.make cls ws).2.h o=some (4*cls,f,l):=by
 obtain ⟨o,e1,e2,o1,o2,_⟩:=(lY hk s8 J1 Do).2.2.2 e;refine ⟨o,e1,o1,o2,e2,?_⟩;unfold SP.make at e e1 ⊢;by_cases he:(s.alloc (4*cls) ws.length 0).1.2=0
 ·rw [a0a (by simpa using he)] at e e1 ⊢;obtain ⟨o',l,g1,g2⟩:=xY hk.wf he;simp only at e1 ⊢
  have:o'=o:=by omega
  subst this;obtain ⟨l',Ou⟩:=y8 ws g2 ((s.alloc (4*cls) ws.length 0).1.1 / 4) 0;refine ⟨0,l',?_⟩;have OU:∀ {s1:SP} (l:List Int),(s1.keepW l).2.h=s1.h:=fun l=>by unfold SP.keepW;split;rfl;split <;> rfl
  rw [OU];exact Ou
 ·rw [a0b (by simpa using he)] at e;exact absurd e he
theorem wM {s:SP}{v:KV}{t:TB} (hk:KS s v) (s8:s.stack.length<65000){c:Int} (hc:1<=c∧c<=65536) (hr:Reaches s.h s.roots c){f:Int}{l:List Int} (ho:ob s.h c=some (48,f,l)) (e:(fI s t v.clsW (4*c)).1.2=0) :
  (fI s t v.clsW (4*c)).1.1=c∧∃ f l,ob (fI s t v.clsW (4*c)).2.1.h c=some (48,f,l):=by
 have Do:∀ w∈v.clsW++[4*c],dL w:=fun w hw=>by
  rcases a0T.1 hw with hw | hw
  ·exact ki hk w hw
  ·simp only [a0A] at hw;rw [hw];exact dN hc.1 hc.2
 have uD:=(iD hk (by omega) Do).2.1;have h1:=uD.ob hr ho;unfold fI at e ⊢;by_cases he:(s.array (v.clsW++[4*c])).1.2=0
 ·rw [a0a (by simpa using he)];refine ⟨by simp only;omega,?_⟩;obtain ⟨l',Ou⟩:=zh h1 (s.array (v.clsW++[4*c])).2.king 0 (s.array (v.clsW++[4*c])).1.1;exact ⟨_,l',Ou⟩
 ·rw [a0b (by simpa using he)] at e;exact absurd e he
theorem xe {s:SP}{v:KV}{t:TB} (hk:KS s v) (s8:s.stack.length<64000){n up l:Int} (hn:dL n) (s6:1<=up∧up<=65536) (hl:dL l) (an:v.cls.length<256) (e:(jo s t v.clsW n up l).1.2=0) :
  ∃ f sl,ob (jo s t v.clsW n up l).2.1.h (jo s t v.clsW n up l).1.1=some (48,f,sl):=by
 have D7:v.clsW.length=v.cls.length:=by simp [KV.clsW]
 have Do:=gJ (n:=n) (up:=up) (l:=l) (k:=v.clsW.length) hn (dN s6.1 s6.2) hl (by omega);unfold jo at e ⊢;by_cases he:(s.make 12 (cW n up l v.clsW.length)).1.2=0
 ·rw [a0a (by simpa using he)] at e ⊢;obtain ⟨o,e1,o1,o2,es,f,sl,ho⟩:=Bl hk (by omega) (cls:=12) (by decide) Do he;obtain ⟨g1,_⟩:=lY hk (by omega) (cls:=12) (by decide) Do;rw [e1] at e ⊢;generalize (s.make 12 (cW n up l v.clsW.length)).2=s2 at *;have h4:(4*o) / 4=o:=by omega
  have h3:aU (4*o)=3:=by have:=bE (4*o);omega
  have hnm:bD s2.h (4*o)=o:=by
   have:=rv (r:=s2.h) h3 (by rw [h4,ho];simp);omega
  have hr:Reaches s2.h s2.roots o:=by
   have:=Reaches.root (r:=s2.h) (ws:=s2.roots) (w:=4*o) (by unfold SP.roots;rw [es];simp) (by rw [hnm];omega);rw [hnm] at this;exact this
  obtain ⟨d1,f',l',d2⟩:=wM g1 (by rw [es];simp;omega) ⟨o1,o2⟩ hr ho e;exact ⟨f',l',by rw [d1];exact d2⟩
 ·rw [a0b (by simpa using he)] at e;exact absurd e he
theorem wZ {s:SP}{v:KV}{t:TB} (hk:KS s v) (s8:s.stack.length<60000){n up:Int}{ns:List Int} (hn:dL n) (s6:1<=up∧up<=65536) (S1:∀ w∈ns,dL w) (an:v.cls.length<256) (e:(lx s t v.clsW n up ns).1.2=0) :
  ∃ f sl,ob (lx s t v.clsW n up ns).2.1.h (lx s t v.clsW n up ns).1.1=some (48,f,sl):=by
 obtain ⟨g1,_,⟨l,gl,gl1⟩,g4⟩:=iD hk (by omega) S1;unfold lx at e ⊢;by_cases he:(s.array ns).1.2=0
 ·rw [a0a (by simpa using he)] at e ⊢;obtain ⟨o,eo,o1,o2,_⟩:=g4 he;rw [eo] at e ⊢;exact xe g1 (by rw [gl];simp;omega) hn s6 (dN o1 o2) an e
 ·rw [a0b (by simpa using he)] at e;exact absurd e he
section
attribute [local semireducible] bL cy cH
theorem B2 (w o m b t:Int):((fW jQ).all fun p=>match aT (cy ⟨w,o,m,b,t,cH⟩).objs p.1 with | some x=>decide (x.cls=p.2) | none=>false)=true:=by kernel_rfl
end
theorem HY {words oops:Int} (h:((cC words oops).allocAll ba).1=0):BO (bL words oops) (fW jQ):=by
 have e:=nz h;have h1:=B2 words oops 0 20 0;rw [←e] at h1;intro p hp
 have:=a2N.1 h1 p hp;split at this
 ·rename_i x hx;exact ⟨_,_,dg.2 ⟨x,hx,of_decide_eq_true this,rfl,rfl⟩⟩
 ·cases this
end
end Kw
namespace Go.Proofs.YtgjfejoohojokaaGreatDoor
open Kw
def iE (n:Int):ByteArray:=⟨(Lib.itoa n).toArray⟩
theorem qQ {n:Int} (h:kx n):(iE n).size<=11:=by
 have:=uY h.1 h.2;unfold iE;show (Lib.itoa n).toArray.size<=11;simpa using this
theorem iC.is {H : au} (h : iC H) : ∀ w : World, w.heap = H -> Lib.TabIs PP w "internal/strconv.uint64pow10" .u64 Lib.pow10Tab := by
 intro w hw;obtain ⟨e,h⟩:=h
 have hg : PP.globalNamed "internal/strconv.uint64pow10" = some gP := by kernel_rfl
 unfold Lib.TabIs World.var?;rw [hg];simp only [Option.bind_some];rw [hw,h]
section
variable {H:au}{b:Nat}{F:aS}{s:SP}{t:TB}{v:KV}{Q:QT}{a:Option Addr}{l c:Nat}
theorem DG {n:Int} (hn:kx n) (ht:iC H) (h:∀ H',Fr [] H H'->Q (.tuple #[.string (iE n),ac 0]) H'):ag PP 301 #[ac n] Q H:=by
 obtain ⟨h0,h1⟩:=hn;apply GB;dsimp only [bk,eI,ah,ac,aO,bJ];refine vq ⟨h0,h1⟩ ⟨_,rfl,?_⟩;rw [a0p,a0f];exact yh Tryz.itoa ⟨_,Tryz.func353,rfl⟩ (by omega) (by omega) ht.is fun H' f=>⟨_,rfl,h H' f⟩
theorem C1 (hK:PK H b F s t) (ht:iC H){n:Int} (hn:kx n) (h:∀ H',PK H' b F (s.makeP 10 1 (bN (iE n))).2 t->Fr F H H'->Q (.tuple #[ac (s.makeP 10 1 (bN (iE n))).1.1,ac (s.makeP 10 1 (bN (iE n))).1.2]) H') :
  ag PP 203 #[cv b (2*n+1) a l c] Q H:=by
 apply Ee;dsimp only [aL,aN,aA,aC,ak,eb,ay,aK,aF,aZ,ac,av,am,aJ,aO,ax];have f:=Fr.push [] H (.cells (cc b (2*n+1) a l c) 138);have hb:=bI.new H (cc b (2*n+1) a l c) 138;refine ⟨_,hb.cell 0,_,hb.cell 1,_,_,_,hb.cell 2,rD (hK.nil f) fun H1 f1=>⟨_,rfl,?_⟩⟩;rw [ID hn];have f01:=f.trans f1;have cj:=hb.fr f1 (by simp);refine DG hn (ht.fr f01 (by simp)) fun H2 f2=>⟨_,_,rfl,?_⟩;have f02:=f01.trans f2;have k8:=cj.fr f2 (by simp);have zw:=qQ hn;refine ⟨_,k8.cell 0,_,k8.cell 1,_,_,_,k8.cell 2,yd (hK.nil f02) (by omega) fun H' w8 f'=>⟨_,_,rfl,h H' w8 ?_⟩⟩;exact ⟨a0O f02.1 f'.1,fun y hy hn=>by rw [f'.2 y (a0X hy f02.1) hn,f02.2 y hy (by simp)]⟩
end
theorem P4:∀ (n m:Int){H:au}{Q:QT},Q (.bool (decide (n<m))) H->ag PP 193 #[ac n,ac m] Q H:=fun _ _ {_ _} h=>by
 apply Hj;exact h
theorem Qi:∀ (n m:Int){H:au}{Q:QT},Q (.bool (decide (n > m))) H->ag PP 194 #[ac n,ac m] Q H:=fun _ _ {_ _} h=>by
 apply Hw;exact h
theorem Qb:∀ (n m:Int){H:au}{Q:QT},Q (.bool (decide (n<=m))) H->ag PP 195 #[ac n,ac m] Q H:=fun _ _ {_ _} h=>by
 apply Lc;exact h
theorem Qp:∀ (n m:Int){H:au}{Q:QT},Q (.bool (decide (n ≥ m))) H->ag PP 196 #[ac n,ac m] Q H:=fun _ _ {_ _} h=>by
 apply EX;exact h
theorem Rd.argc {H:au}{q:Addr}{l:Nat}{ar:List Int} (hr:Rd 1 H (some q) l (az ar)) (i:Nat) (hi:i<ar.length):aq H (q.add (i*1))=some (ac (ar.getD i 0)):=by
 have hlen:l=ar.length:=by have:=hr.1;simpa [az] using this.symm
 obtain ⟨p,hp,hc,_⟩:=hr.int (i:=(i:Int)) (by omega) (by omega);cases hp;simp only [a0j] at hc;rw [a0y];exact hc
section
variable {H:au}{b:Nat}{F:aS}{s:SP}{t:TB}{v:KV}{Q:QT}{x:Int}{q:Addr}{l c:Nat}{ws:List Int}{k j:Int}{y z:ByteArray}
theorem qp (hK:PK H b F s t) (hv:KAllW s t v) (hs:mR s.h k (bN y)) (hz:mR s.h j (bN z)) (hy:y.size<=100000) (hy2:z.size<=100000) (hr:Rd 1 H (some q) l (az [4*j])) (h:∀ H',Fr [] H H'->Q (.tuple #[.string y,.string z,.bool true]) H') :
  ag PP 306 #[cv b (4*k) (some q) l c] Q H:=by
 obtain ⟨k1,k2⟩:=ju hv hs;obtain ⟨j1,j2⟩:=ju hv hz;have hlen:l=1:=by have:=hr.1;simpa [az] using this.symm
 subst hlen;apply zl;dsimp only [aL,aN,aP,aC,eI,ah,ay,aK,aF,bc,aZ,ac,bf,av,am,aJ,aO,ax,bJ];have f:=Fr.push [] H (.cells (cc b (4*k) (some q) 1 c) 138);have hb:=bI.new H (cc b (4*k) (some q) 1 c) 138;have a0:=Rd.argc (Rd.nilF hr f) 0 (by simp);refine ⟨_,hb.cell 0,_,hb.cell 1,_,_,_,hb.cell 2,_,_,_,hb.cell 2,⟨by decide,by decide⟩,q,rfl,_,a0,pm (hK.nil f) hv fun H1 f1=>⟨_,rfl,trivial,?_⟩⟩;rw [show ([4*j].getD 0 0)=4*j from rfl,Bj hz j1 j2];simp only [show ((10:Int) != 10)=false from rfl,a0f];have f01:=f.trans f1;have cj:=hb.fr f1 (by simp);have a1:=Rd.argc (Rd.nilF hr f01) 0 (by simp);refine ⟨_,cj.cell 0,_,cj.cell 1,_,_,_,cj.cell 2,_,cj.cell 1,_,cj.cell 0,_,cj.cell 1,_,_,_,cj.cell 2,_,_,_,cj.cell 2,⟨by decide,by decide⟩,q,rfl,_,a1,tH (hK.nil f01) hs k1 k2 hy fun H2 f2=>?_⟩;have f02:=f01.trans f2;have k8:=cj.fr f2 (by simp);have a2:=Rd.argc (Rd.nilF hr f02) 0 (by simp);exact ⟨_,rfl,⟨⟨a2,trivial⟩,⟨k8.cell 2,trivial⟩,⟨k8.cell 0,k8.cell 1,k8.cell 2,trivial⟩,trivial⟩,tH (hK.nil f02) hz j1 j2 hy2 fun H3 f3=>⟨_,rfl,trivial,h _ (f02.trans f3)⟩⟩
variable {a:Option Addr}
end
def fX (v:KV) (o:Int):Bool:=decide (o=4) || match eR v o with
 | some i=>decide (14<(i:Int)+1)
 | none=>false
def cT (r:RH) (v:KV) (w:Int):Int:=if fX v (cK r w) then (dl r w).1 else 0
def nQ (t:TB) (n:Int):ByteArray:=if h:0<=n∧n<t.texts.length then t.texts[n.toNat]'(by omega) else ⟨#[]⟩
section
variable {H:au}{b:Nat}{F:aS}{s:SP}{t:TB}{v:KV}{Q:QT}{r x:Int}{a:Option Addr}{q:Addr}{l c:Nat}{ws:List Int}
theorem Bt (hK:PK H b F s t) (hv:KAllW s t v) (ho:1<=cK s.h r∧cK s.h r<=65536) (h:∀ H',Fr [] H H'->Q (.tuple #[ac (4*cK s.h r),ac 0]) H'):ag PP 173 #[cv b r a l c] Q H:=by
 apply Hv;dsimp only [aL,aN,aA,aC,ak,ay,aK,aF,aZ,ac,av,am,aJ,ax];have f:=Fr.push [] H (.cells (cc b r a l c) 138);have hb:=bI.new H (cc b r a l c) 138;exact ⟨_,hb.cell 0,_,hb.cell 1,_,_,_,hb.cell 2,_,hb.cell 1,pm (hK.nil f) hv fun H1 f1=>⟨_,rfl,pr ho ⟨_,_,rfl,h _ (f.trans f1)⟩⟩⟩
theorem Bh (h:∀ H',Fr [] H H'->Q (.tuple #[ac (tw (decide (r=4))),ac 0]) H'):ag PP 174 #[cv b r a l c] Q H:=by
 apply HN;dsimp only [aN,aA,aP,ak,ay,ac,av,am,aJ,ax];have hb:=bI.new H (cc b r a l c) 138;refine ⟨_,hb.cell 1,dY ⟨_,_,rfl,?_⟩⟩;rw [bq];exact h _ (Fr.push _ _ _)
theorem zZ (h:∀ H',Fr [] H H'->Q (.tuple #[ac (tw (decide (r≠4))),ac 0]) H'):ag PP 175 #[cv b r a l c] Q H:=by
 apply Lj;dsimp only [aN,aA,aP,ak,ay,ac,av,am,aJ,ax];have hb:=bI.new H (cc b r a l c) 138;refine ⟨_,hb.cell 1,dY ⟨_,_,rfl,?_⟩⟩;rw [bn];exact h _ (Fr.push _ _ _)
theorem Ep (h:∀ H',Fr [] H H'->Q (.tuple #[ac r,ac 0]) H'):ag PP 176 #[cv b r a l c] Q H:=by
 apply E5;dsimp only [aN,aA,ay,ac,av,am,aJ,ax];have hb:=bI.new H (cc b r a l c) 138;exact ⟨_,hb.cell 1,h _ (Fr.push _ _ _)⟩
theorem yJ (hK:PK H b F s t) (hv:KAllW s t v){w:Int} (h:∀ H',Fr [] H H'->Q (.bool (fX v (cK s.h w))) H'):ag PP 289 #[cv b r a l c,ac w] Q H:=by
 apply DT;dsimp only [aL,aN,aP,aC,ah,ak,bP,ay,aK,aF,aZ,ac,av,am,aJ,ax];have f:=Fr.push [] H (.cells (cc b r a l c) 138);have hb:=bI.new H (cc b r a l c) 138;refine ⟨_,hb.cell 0,_,hb.cell 1,_,_,_,hb.cell 2,pm (hK.nil f) hv fun H1 f1=>⟨_,rfl,?_⟩⟩;have f01:=f.trans f1;have cj:=hb.fr f1 (by simp);refine ⟨_,cj.cell 0,vf (hK.nil f01) hv fun H2 f2=>?_⟩;have hq:=h _ (f01.trans f2);unfold fX at hq;cases hp:eR v (cK s.h w) with
 | none =>
  rw [hp] at hq;refine ⟨_,_,rfl,?_⟩;rw [bq,ae];refine aD (fun h4=>?_) fun h4=>?_
  ·rw [a00 h4] at hq;exact hq
  ·rw [a09 h4] at hq;exact hq
 | some i =>
  rw [hp] at hq;refine ⟨_,_,rfl,?_⟩;rw [bq,ae];refine aD (fun h4=>?_) fun h4=>?_
  ·rw [a00 h4] at hq;exact hq
  ·rw [a09 h4] at hq;exact hq
theorem sQ (hK:PK H b F s t) (hv:KAllW s t v) (h:∀ H',Fr [] H H'->Q (ac (cT s.h v r)) H'):ag PP 287 #[cv b r a l c] Q H:=by
 apply IM;dsimp only [aL,aN,bk,ah,ak,ay,aK,aF,aZ,ac,av,am,aJ,ax];have f:=Fr.push [] H (.cells (cc b r a l c) 138);have hb:=bI.new H (cc b r a l c) 138;refine ⟨_,hb.cell 0,_,hb.cell 1,_,_,_,hb.cell 2,_,hb.cell 1,yJ (hK.nil f) hv fun H1 f1=>⟨_,rfl,?_⟩⟩;have f01:=f.trans f1;have cj:=hb.fr f1 (by simp);unfold cT at h;cases hi:fX v (cK s.h r) with
 | false =>
  rw [hi] at h;exact h _ f01
 | true =>
  rw [hi] at h;exact ⟨_,cj.cell 0,_,cj.cell 1,_,_,_,cj.cell 2,_,cj.cell 1,gC (hK.nil f01) fun H2 f2=>⟨_,_,rfl,h _ (f01.trans f2)⟩⟩
theorem AL (hK:PK H b F s t) (hv:KAllW s t v) (h:∀ H',Fr [] H H'->Q (.tuple #[ac (iA (cT s.h v r)).1,ac (iA (cT s.h v r)).2]) H'):ag PP 178 #[cv b r a l c] Q H:=by
 apply IP;dsimp only [aL,aN,aA,aC,ak,ay,aK,aF,aZ,ac,av,am,aJ,ax];have f:=Fr.push [] H (.cells (cc b r a l c) 138);have hb:=bI.new H (cc b r a l c) 138;exact ⟨_,hb.cell 0,_,hb.cell 1,_,_,_,hb.cell 2,sQ (hK.nil f) hv fun H1 f1=>⟨_,rfl,od ⟨_,_,rfl,h _ (f.trans f1)⟩⟩⟩
theorem zc (hK:PK H b F s t) (hr:Rd 1 H (some q) l (az (x :: ws))) (ho:q.block∉F){n:Int} (gw:(bG n x).2≠0->∀ H',Fr [] H H'->Q (.tuple #[ac 0,ac (bG n x).2]) H')
  (JF:(bG n x).2=0->ws=[]->∀ H',Fr [] H H'->Q (.tuple #[ac (eU s.h r (bG n x).1),ac 0]) H')
  (Jj:(bG n x).2=0->∀ y ws',ws=y :: ws'->∀ H',PK H' b F (s.putW r (bG n x).1 y).2 t->Fr F H H'->Q (.tuple #[ac y,ac (s.putW r (bG n x).1 y).1]) H'):ag PP 288 #[cv b r (some q) l c,ac n] Q H:=by
 have an:=hK.lt;have hlen:l=ws.length+1:=by have:=hr.1;simp [az] at this;omega
 apply IU;dsimp only [aL,aN,aA,aC,ah,ak,aX,ay,aK,aF,bc,aZ,ac,bf,av,am,aJ,ax];have f:=Fr.push [] H (.cells (cc b r (some q) l c) 138);have hb:=bI.new H (cc b r (some q) l c) 138;have Tx:H.size∉F:=fun hm=>by have:=an _ hm;omega
 refine ⟨_,hb.cell 0,_,hb.cell 1,_,_,_,hb.cell 2,qG (hK.nil f) (Rd.nilF hr f) fun H1 f1=>⟨_,_,rfl,?_⟩⟩;have f01:=f.trans f1;have cj:=hb.fr f1 (by simp);rw [bn,ae];refine aD (fun h0=>gw h0 _ f01) fun h0=>?_;have TU:(bG n x).2=0:=a0v h0;refine ⟨_,_,_,cj.cell 2,?_⟩;rw [ae];refine aD (fun h2=>?_) fun h2=>?_
 ·have hw:ws=[]:=a1o (by omega);exact ⟨_,cj.cell 0,_,cj.cell 1,_,_,_,cj.cell 2,_,cj.cell 1,nL (hK.nil f01) fun H2 f2=>⟨_,rfl,JF TU hw _ (f01.trans f2)⟩⟩
 ·cases ws with
  | nil=>simp at hlen;omega
  | cons y ws =>
   have J9:1<(l:Int):=by omega
   have a1:=Rd.argc (Rd.nilF hr f01) 1 (by simp);refine ⟨_,_,_,cj.cell 2,⟨by decide,J9⟩,q,rfl,_,a1,_,cj.cell 0,_,cj.cell 1,_,_,_,cj.cell 2,_,cj.cell 1,_,_,_,cj.cell 2,⟨by decide,J9⟩,q,rfl,_,a1,xP (hK.nil f01) fun H3 I4 f3=>?_⟩;have f03:Fr F H H3:=⟨a0O f01.1 f3.1,fun z hz hn=>by rw [f3.2 z (a0X hz f01.1) hn,f01.2 z hz (by simp)]⟩;have Ju:=cj.fr f3 Tx;have a3:=Rd.argc (hr.fr' f03 fun p hp=>by cases hp;exact ho) 1 (by simp);exact ⟨_,rfl,⟨⟨a3,trivial⟩,⟨Ju.cell 2,trivial⟩,trivial⟩,Jj TU y ws rfl H3 I4 f03⟩
theorem LN (hK:PK H b F s t) (hr:Rd 1 H (some q) l (az (x :: ws))) (ho:q.block∉F) (gw:(bG (dl s.h r).1 x).2≠0->∀ H',Fr [] H H'->Q (.tuple #[ac 0,ac (bG (dl s.h r).1 x).2]) H')
  (JF:(bG (dl s.h r).1 x).2=0->ws=[]->∀ H',Fr [] H H'->Q (.tuple #[ac (eU s.h r (bG (dl s.h r).1 x).1),ac 0]) H')
  (Jj:(bG (dl s.h r).1 x).2=0->∀ y ws',ws=y :: ws'->∀ H',PK H' b F (s.putW r (bG (dl s.h r).1 x).1 y).2 t->Fr F H H'->Q (.tuple #[ac y,ac (s.putW r (bG (dl s.h r).1 x).1 y).1]) H'):ag PP 215 #[cv b r (some q) l c] Q H:=by
 apply GG;dsimp only [aL,aN,aA,ak,ay,aK,aF,aZ,ac,av,am,aJ,ax];have f:=Fr.push [] H (.cells (cc b r (some q) l c) 138);have hb:=bI.new H (cc b r (some q) l c) 138;refine ⟨_,hb.cell 0,_,hb.cell 1,_,_,_,hb.cell 2,_,hb.cell 1,gC (hK.nil f) fun H1 f1=>⟨_,_,rfl,?_⟩⟩;have f01:=f.trans f1;have cj:=hb.fr f1 (by simp);refine ⟨_,cj.cell 0,_,cj.cell 1,_,_,_,cj.cell 2,zc (hK.nil f01) (Rd.nilF hr f01) ho (fun h0 H' f'=>⟨_,_,rfl,gw h0 _ (f01.trans f')⟩) (fun h0 hw H' f'=>⟨_,_,rfl,JF h0 hw _ (f01.trans f')⟩) fun h0 y ws' hw H' w8 f'=>⟨_,_,rfl,Jj h0 y ws' hw H' w8 ?_⟩⟩;exact ⟨a0O f01.1 f'.1,fun z hz hn=>by rw [f'.2 z (a0X hz f01.1) hn,f01.2 z hz (by simp)]⟩
theorem zj (hK:PK H b F s t) (hv:KAllW s t v) (hr:Rd 1 H (some q) l (az (x :: ws))) (ho:q.block∉F) (gw:(bG (cT s.h v r) x).2≠0->∀ H',Fr [] H H'->Q (.tuple #[ac 0,ac (bG (cT s.h v r) x).2]) H')
  (JF:(bG (cT s.h v r) x).2=0->ws=[]->∀ H',Fr [] H H'->Q (.tuple #[ac (eU s.h r (bG (cT s.h v r) x).1),ac 0]) H')
  (Jj:(bG (cT s.h v r) x).2=0->∀ y ws',ws=y :: ws'->∀ H',PK H' b F (s.putW r (bG (cT s.h v r) x).1 y).2 t->Fr F H H'->Q (.tuple #[ac y,ac (s.putW r (bG (cT s.h v r) x).1 y).1]) H'):ag PP 179 #[cv b r (some q) l c] Q H:=by
 apply DJ;dsimp only [aL,aN,aA,aC,ak,ay,aK,aF,aZ,ac,av,am,aJ,ax];have f:=Fr.push [] H (.cells (cc b r (some q) l c) 138);have hb:=bI.new H (cc b r (some q) l c) 138;refine ⟨_,hb.cell 0,_,hb.cell 1,_,_,_,hb.cell 2,_,hb.cell 0,_,hb.cell 1,_,_,_,hb.cell 2,sQ (hK.nil f) hv fun H1 f1=>?_⟩;have f01:=f.trans f1;have cj:=hb.fr f1 (by simp);refine ⟨_,rfl,⟨⟨cj.cell 0,cj.cell 1,cj.cell 2,trivial⟩,trivial⟩,zc (hK.nil f01) (Rd.nilF hr f01) ho (fun h0 H' f'=>⟨_,_,rfl,trivial,gw h0 _ (f01.trans f')⟩) (fun h0 hw H' f'=>⟨_,_,rfl,trivial,JF h0 hw _ (f01.trans f')⟩) fun h0 y ws' hw H' w8 f'=>⟨_,_,rfl,trivial,Jj h0 y ws' hw H' w8 ?_⟩⟩;exact ⟨a0O f01.1 f'.1,fun z hz hn=>by rw [f'.2 z (a0X hz f01.1) hn,f01.2 z hz (by simp)]⟩
theorem LR (h:∀ H',Fr [] H H'->Q (.tuple #[ac (tw (decide (r=8))),ac 0]) H'):ag PP 292 #[cv b r a l c] Q H:=by
 apply KC;dsimp only [aN,aA,aP,ak,ay,ac,av,am,aJ,ax];have hb:=bI.new H (cc b r a l c) 138;refine ⟨_,hb.cell 1,dY ⟨_,_,rfl,?_⟩⟩;rw [bq];exact h _ (Fr.push _ _ _)
theorem BE (hK:PK H b F s t) (hn:kx (cG r)) (h:∀ H',Fr [] H H'->Q (.tuple #[ac (iA (fD 0 (cG r)).1).1,ac (iA (fD 0 (cG r)).1).2]) H'):ag PP 199 #[cv b r a l c] Q H:=by
 apply Dx;dsimp only [aL,aN,aA,aC,ah,ak,ay,aK,aF,aZ,ac,av,am,aJ,ax];have f:=Fr.push [] H (.cells (cc b r a l c) 138);have hb:=bI.new H (cc b r a l c) 138;refine ⟨_,hb.cell 0,_,hb.cell 1,_,_,_,hb.cell 2,rD (hK.nil f) fun H1 f1=>⟨_,rfl,BZ 0 _ ⟨by decide,by decide⟩ hn ⟨_,_,rfl,?_⟩⟩⟩;rw [show (fD 0 (cG r)).2=0 from rfl];simp only [show ((0:Int) != 0)=false from rfl,a0f];exact od ⟨_,_,rfl,h _ (f.trans f1)⟩
theorem MH:td 197 fun n m=>(if m<n then m else n,0):=fun n m _ _ {Q H} h=>by
 apply Io;exact h
theorem Nh:td 198 fun n m=>(if n<m then m else n,0):=fun n m _ _ {Q H} h=>by
 apply IG;exact h
theorem wC (hK:PK H b F s t){p:Nat}{i:Int} (hp:bI H p #[ac i]) (h:∀ H',Fr [] H H'->Q (.tuple #[ac (eU s.h r i),ac 0]) H'):ag PP 309 #[cv b r a l c,QW p] Q H:=by
 apply En;dsimp only [aL,aN,aA,aC,ay,aK,aF,aZ,ac,av,am,aJ,ax];have f:=Fr.push [] H (.cells (cc b r a l c) 138);have hb:=bI.new H (cc b r a l c) 138;exact ⟨_,hb.cell 0,_,hb.cell 1,_,_,_,hb.cell 2,_,hb.cell 1,_,(hp.fr f (by simp)).cell 0,nL (hK.nil f) fun H1 f1=>⟨_,rfl,h _ (f.trans f1)⟩⟩
end
theorem rq (t:TB) (n:Int):∃ e:Int,pd t n=.tuple #[.string (nQ t n),ac e]:=by
 unfold pd nQ;by_cases h:0<=n∧n<t.texts.length
 ·rw [dif_pos h,dif_pos h];exact ⟨_,rfl⟩
 ·rw [dif_neg h,dif_neg h];exact ⟨_,rfl⟩
theorem iN {F:aS}{H H1 H2:au} (f:Fr [] H H1) (g:Fr F H1 H2):Fr F H H2 :=
 ⟨a0O f.1 g.1,fun w hw hn=>by rw [g.2 w (a0X hw f.1) hn,f.2 w hw (by simp)]⟩
theorem eZ {F F':aS}{H H1 H2:au} (f:Fr [] H H1) (g:Up F H1 F' H2):Up F H F' H2:=⟨iN f g.1,fun w hw=>(g.2 w hw).imp id fun h=>a0O f.1 h⟩
def oh (s:SP) (w:Int):Prop:=∃ k y,w=4*k∧mR s.h k (bN y)∧y.size<=8192
section
variable {H:au}{b:Nat}{F:aS}{s:SP}{t:TB}{v:KV}{Q:QT}{r x:Int}{a:Option Addr}{q:Addr}{l c:Nat}{ws:List Int}{k:Int}{y:ByteArray}
theorem pJ (hK:PK H b F s t){n:Int} (hn:0<=n∧n<4096) (h:∀ H',Fr [] H H'->Q (.string (nQ t n)) H'):ag PP 303 #[cv b r a l c,ac (4*n+2)] Q H:=by
 apply yp;dsimp only [aL,aN,A6,cq,du,eI,ah,ak,eb,aX,ay,aK,aF,bc,aZ,ac,bf,bX,av,bm,am,aJ,aO,ax,aI];have f:=Fr.push [] H (.cells (cc b r a l c) 138);have hb:=bI.new H (cc b r a l c) 138;have s5:=hK.nil f;refine tX s5.kinds ?_;unfold mr;have O8:aU (4*n+2)=2:=by
  unfold aU;rw [a0a (by omega),a0b (by omega)]
 rw [a0b O8];refine ⟨_,_,rfl,?_⟩;simp only [show ((0:Int) == 0)=true from rfl,a0P];refine ⟨_,hb.cell 0,qi s5 fun tb F1 _ hT=>⟨_,rfl,wq hT ?_⟩⟩;rw [show (4*n+2) / 4=n by omega];obtain ⟨e,he⟩:=rq t n;rw [he];exact ⟨_,_,rfl,h _ f⟩
theorem FQ (hK:PK H b F s t){n:Int} (hn:0<=n∧n<4096) (h:∀ H',Fr [] H H'->Q (.tuple #[ac (iA ((nQ t n).size:Int)).1,ac (iA ((nQ t n).size:Int)).2]) H') :
  ag PP 204 #[cv b (4*n+2) a l c] Q H:=by
 apply GR;dsimp only [aL,aN,aA,eI,ak,ay,aK,aF,aZ,ac,av,am,aJ,ax];have f:=Fr.push [] H (.cells (cc b (4*n+2) a l c) 138);have hb:=bI.new H (cc b (4*n+2) a l c) 138;exact ⟨_,hb.cell 0,_,hb.cell 1,_,_,_,hb.cell 2,_,hb.cell 1,pJ (hK.nil f) hn fun H1 f1=>⟨_,rfl,od ⟨_,_,rfl,h _ (f.trans f1)⟩⟩⟩
theorem Nf (hK:PK H b F s t){n:Int} (hn:0<=n∧n<4096) (hl:(nQ t n).size<=1000) (h:∀ H',PK H' b F (s.makeP 10 1 (bN (nQ t n))).2 t->Fr F H H'->Q (.tuple #[ac (s.makeP 10 1 (bN (nQ t n))).1.1,ac (s.makeP 10 1 (bN (nQ t n))).1.2]) H') :
  ag PP 205 #[cv b (4*n+2) a l c] Q H:=by
 apply KN;dsimp only [aL,aN,aA,eI,ak,ay,aK,aF,aZ,ac,av,am,aJ,aO,ax];have f:=Fr.push [] H (.cells (cc b (4*n+2) a l c) 138);have hb:=bI.new H (cc b (4*n+2) a l c) 138;refine ⟨_,hb.cell 0,_,hb.cell 1,_,_,_,hb.cell 2,_,hb.cell 0,_,hb.cell 1,_,_,_,hb.cell 2,_,hb.cell 1,pJ (hK.nil f) hn fun H1 f1=>?_⟩;have f01:=f.trans f1;have cj:=hb.fr f1 (by simp);exact ⟨_,rfl,⟨⟨cj.cell 0,cj.cell 1,cj.cell 2,trivial⟩,trivial⟩,yd (hK.nil f01) (by omega) fun H' w8 f'=>⟨_,_,rfl,trivial,h H' w8 (iN f01 f')⟩⟩
theorem wn (hK:PK H b F s t) (hv:KAllW s t v) (hs:mR s.h k (bN y)) (hy:y.size<=8192) (hx:cK s.h x=10->oh s x) (hr:Rd 1 H (some q) l (az [x])) (gw:∀ H',Fr [] H H'->Q (.tuple #[.string ⟨#[]⟩,.string ⟨#[]⟩,.bool false]) H')
  (h:∀ j z H',x=4*j->mR s.h j (bN z)->z.size<=8192->Fr [] H H'->Q (.tuple #[.string y,.string z,.bool true]) H'):ag PP 306 #[cv b (4*k) (some q) l c] Q H:=by
 by_cases qz:cK s.h x=10
 ·obtain ⟨j,z,rfl,hz,SK⟩:=hx qz;exact qp hK hv hs hz (by omega) (by omega) hr fun H' f=>h j z H' rfl hz SK f
 have hlen:l=1:=by have:=hr.1;simpa [az] using this.symm
 subst hlen;apply zl;dsimp only [aL,aN,aP,aC,eI,ah,ay,aK,aF,bc,aZ,ac,bf,av,am,aJ,aO,ax,bJ];have f:=Fr.push [] H (.cells (cc b (4*k) (some q) 1 c) 138);have hb:=bI.new H (cc b (4*k) (some q) 1 c) 138;have a0:=Rd.argc (Rd.nilF hr f) 0 (by simp);refine ⟨_,hb.cell 0,_,hb.cell 1,_,_,_,hb.cell 2,_,_,_,hb.cell 2,⟨by decide,by decide⟩,q,rfl,_,a0,pm (hK.nil f) hv fun H1 f1=>⟨_,rfl,trivial,?_⟩⟩;rw [show ([x].getD 0 0)=x from rfl,bn,ae,a0b qz];exact gw _ (f.trans f1)
noncomputable def vw (s:SP) (cls n f:Int):Int:=if (s.alloc cls n f).1.2=0 then (s.alloc cls n f).1.1 else 0
end
section
attribute [local irreducible] bL cy cH iF fD iG gO gt iJ pu iy dp dA
theorem nE {es:List PE}{x:ByteArray}{n:Int}{p:PF} (h:gv es x=some (n,p)):(x,n,p)∈es:=by
 induction es with
 | nil=>cases h
 | cons e es ih =>
  unfold gv at h;split at h
  ·rename_i hx;have h2:=Option.some.inj h
   have:e=(x,n,p):=Prod.ext hx.symm h2;rw [this];simp
  ·exact a2F _ (ih h)
theorem gu {w:Int} (h:aU w=1):w=2*(w / 2)+1∧kx (w / 2)∧cG w=w / 2:=by
 have:=bE w;refine ⟨by omega,⟨by omega,by omega⟩,?_⟩;unfold cG;rw [a0b h]
theorem Cg {xs:List Int} (h:∀ w∈xs,0<=w∧w<=255):∃ y:ByteArray,bN y=xs:=by
 refine ⟨⟨(xs.map fun w=>UInt8.ofNat w.toNat).toArray⟩,?_⟩;unfold bN;simp only [a3n];rw [a3B (g:=id) (fun w hw=>?_),List.map_id]
 have:=h w hw;simp only [Function.comp_apply,id];rw [UInt8.toNat_ofNat_of_lt' (by show w.toNat<256;omega)];omega
section
variable {s:SP}{t:TB}{v:KV}{G:Int->Prop}
theorem tt (hv:KAllW s t v){k c:Int}{l:List Int} (h:ob s.h k=some (c,1,l)):(∀ w∈l,0<=w∧w<=255)∧l.length<=8192:=by
 obtain ⟨o,ho,_,hf,rfl⟩:=dg.1 h;have hg:=hv.ks.wf.h.objs.good o (aR ho).1;refine ⟨fun w hw=>?_,hg.many⟩;have hm:=hg.may w hw;unfold fv at hm;rw [a0b hf] at hm;exact hm
theorem pF {c:Int} (hp:PairV v) (h:pC v c) (hc:aU c=3):c / 4=11∨(c / 4=4)∨∃ i,eR v (c / 4)=some i∧14<=i:=by
 rcases h with rfl | ⟨o,i,rfl,h1,h2⟩
 ·exact .inl rfl
 ·have:(4*o) / 4=o:=by omega
  rw [this];rcases h2 with rfl | h2
  ·exact .inr (.inl rfl)
  ·exact .inr (.inr ⟨i,h1,h2⟩)
theorem lI (hp:PairV v):eR v 4=some 0∧eR v 5=some 1∧eR v 6=some 2∧eR v 7=some 3∧eR v 8=some 4∧eR v 9=some 5∧eR v 10=some 6∧eR v 11=some 7∧eR v 12=some 8∧eR v 14=some 10∧eR v 17=some 13:=hp.pl
theorem vL {r:RH}{w c f:Int}{l:List Int} (h3:aU w=3) (hx:ob r (w / 4)=some (c,f,l)):dm r w l.length=l:=by
 apply a3O;intro i;unfold dm;by_cases hi:i<l.length
 ·rw [a2s,List.getElem?_range hi];simp only [a2Q];rw [pK h3 hx (by omega) (by omega)];simp [hi]
 ·rw [a2I (by simp;omega),a2I (by omega)]
theorem jT {n x:Int} (h:(bG n x).2=0):0<=(bG n x).1∧(bG n x).1<n:=by
 unfold bG at h ⊢;split
 ·rename_i h1;rw [a0b h1] at h;cases h
 ·rename_i h1;rw [a0a h1] at h;split
  ·rename_i h2;rw [a0b h2] at h;cases h
  ·simp only;omega
theorem Cj {l:List Int}{i:Int} (h0:0<=i) (h1:i<l.length):l.getD i.toNat 0∈l:=by
 have hi:i.toNat<l.length:=by omega
 rw [a1f,a0Q hi];exact a04 hi
theorem KB (hv:KAllW s t v){w:Int}{l:List Int} (h3:aU w=3) (hx:ob s.h (w / 4)=some (40,1,l)):∃ y,l=bN y∧mR s.h (w / 4) (bN y)∧y.size<=8192:=by
 obtain ⟨h1,h2⟩:=tt hv hx;obtain ⟨y,hy⟩:=Cg h1;have hl:=ik y;refine ⟨y,hy.symm,?_,by rw [←hl,hy];exact h2⟩;obtain ⟨o,a1,a2,a3,a4⟩:=dg.1 hx;exact ⟨o,a1,a3,a2,by rw [a4,hy]⟩
theorem sj (hv:KAllW s t v) (n:Int):(nQ t n).size<=96:=by
 unfold nQ;split
 ·exact (hv.names.wf.good _ (a04 _)).2
 ·decide
end
inductive PO where
 | same | other | cls | isNil | notNil | self | isKind | ivSize | ivAt | copy | not | and | or
 | num (f:Int->Int->Int × Int) | cmp (f:Int->Int->Bool) | neg | abs | even | odd | print
 | len | asStr | symLess | size | empty | byteAt | bytePut | join | eq | less | asSym | at | fresh | sized | slot (i:Int)
abbrev PR:=(Int × Int) × SP × TB
def ee (r:RH) (t:TB) (w:Int):ByteArray:=if aU w=2 then nQ t (w / 4) else ⟨((dm r w (dl r w).1.toNat).map fun z=>UInt8.ofNat z.toNat).toArray⟩
def LO (x y:ByteArray):Bool:=Op.bytesLess (ByteArray.toList x) (ByteArray.toList y)
section
variable (s:SP) (t:TB) (v:KV) (r:Int) (ar:List Int)
noncomputable def C3 (c f:Int) (xs:List Int):PR:=((s.makeP c f xs).1,(s.makeP c f xs).2,t)
noncomputable def Cc (n f:Int):PR:=((vw s r n f,(s.alloc r n f).1.2),(s.alloc r n f).2,t)
def dP (n:Int):PR :=
 if (bG n (ar.getD 0 0)).2≠0 then ((0,(bG n (ar.getD 0 0)).2),s,t)
 else if ar.length<2 then ((eU s.h r (bG n (ar.getD 0 0)).1,0),s,t)
 else ((ar.getD 1 0,(s.putW r (bG n (ar.getD 0 0)).1 (ar.getD 1 0)).1),(s.putW r (bG n (ar.getD 0 0)).1 (ar.getD 1 0)).2,t)
noncomputable def bS:PO->PR
 | .same=>((tw (decide (r=ar.getD 0 0)),0),s,t)
 | .other=>((tw (decide (r≠ar.getD 0 0)),0),s,t)
 | .cls=>((4*cK s.h r,0),s,t)
 | .isNil=>((tw (decide (r=4)),0),s,t)
 | .notNil=>((tw (decide (r≠4)),0),s,t)
 | .self=>((r,0),s,t)
 | .isKind=>(if cK s.h (ar.getD 0 0)≠12 then (0,170) else (tw (iR v (ar.getD 0 0 / 4) (cK s.h r)),0),s,t)
 | .ivSize=>(iA (cT s.h v r),s,t)
 | .ivAt=>dP s t r ar (cT s.h v r)
 | .copy=>if cK s.h r=10∨(cK s.h r=11∧(dl s.h r).1.toNat≠0)∨fX v (cK s.h r)=true then C3 s t (cK s.h r) (dl s.h r).2 (dm s.h r (dl s.h r).1.toNat) else ((r,0),s,t)
 | .not=>((tw (decide (r=8)),0),s,t)
 | .and=>(if ar.getD 0 0=12 then (tw (decide (r=12)),0) else if ar.getD 0 0=8 then (8,0) else (0,170),s,t)
 | .or=>(if ar.getD 0 0=12 then (12,0) else if ar.getD 0 0=8 then (tw (decide (r=12)),0) else (0,170),s,t)
 | .num f=>(if aU (ar.getD 0 0)≠1 then (0,170) else if (f (cG r) (cG (ar.getD 0 0))).2≠0 then (0,(f (cG r) (cG (ar.getD 0 0))).2) else iA (f (cG r) (cG (ar.getD 0 0))).1,s,t)
 | .cmp f=>(if aU (ar.getD 0 0)≠1 then (0,170) else (tw (f (cG r) (cG (ar.getD 0 0))),0),s,t)
 | .neg=>(iA (fD 0 (cG r)).1,s,t)
 | .abs=>(if cG r<0 then iA (fD 0 (cG r)).1 else (r,0),s,t)
 | .even=>((tw (decide (cG r % 2=0)),0),s,t)
 | .odd=>((tw (decide (cG r % 2=1)),0),s,t)
 | .print=>C3 s t 10 1 (bN (iE (cG r)))
 | .len=>(iA ((ee s.h t r).size:Int),s,t)
 | .asStr=>C3 s t 10 1 (bN (ee s.h t r))
 | .symLess=>(if aU (ar.getD 0 0)≠2 then (0,170) else (tw (LO (ee s.h t r) (ee s.h t (ar.getD 0 0))),0),s,t)
 | .size=>(iA (dl s.h r).1,s,t)
 | .empty=>((tw (decide ((dl s.h r).1=0)),0),s,t)
 | .byteAt=>(sR s.h r (ar.getD 0 0),s,t)
 | .bytePut=>if aU (ar.getD 0 0)≠1∨aU (ar.getD 1 0)≠1∨ar.getD 1 0 / 2<0∨255<ar.getD 1 0 / 2 then ((0,170),s,t) else if (bG (dl s.h r).1 (ar.getD 0 0)).2≠0 then ((0,(bG (dl s.h r).1 (ar.getD 0 0)).2),s,t)
  else ((ar.getD 1 0,(s.putW r (bG (dl s.h r).1 (ar.getD 0 0)).1 (ar.getD 1 0 / 2)).1),(s.putW r (bG (dl s.h r).1 (ar.getD 0 0)).1 (ar.getD 1 0 / 2)).2,t)
 | .join=>if cK s.h (ar.getD 0 0)≠10 then ((0,170),s,t) else if 8192<(ee s.h t r).size+(ee s.h t (ar.getD 0 0)).size then ((0,170),s,t) else C3 s t 10 1 (bN (ee s.h t r++ee s.h t (ar.getD 0 0)))
 | .eq=>((tw (decide (cK s.h (ar.getD 0 0)=10) && bO (ee s.h t r) (ee s.h t (ar.getD 0 0))),0),s,t)
 | .less=>(if cK s.h (ar.getD 0 0)≠10 then (0,170) else (tw (LO (ee s.h t r) (ee s.h t (ar.getD 0 0))),0),s,t)
 | .asSym=>if (ee s.h t r).size<1∨96<(ee s.h t r).size then ((0,170),s,t) else (if (t.add (ee s.h t r)).1.2≠0 then (0,(t.add (ee s.h t r)).1.2) else (4*(t.add (ee s.h t r)).1.1+2,0),s,(t.add (ee s.h t r)).2)
 | .at=>dP s t r ar (dl s.h r).1
 | .fresh=>match eR v (r / 4) with
  | none=>((0,170),s,t)
  | some i=>if (i:Int)+1<=14∧r / 4≠4 then ((0,170),s,t) else Cc s t r ((ch v i).length:Int) 0
 | .sized=>if (r / 4≠10∧r / 4≠11)∨aU (ar.getD 0 0)≠1∨ar.getD 0 0 / 2<0∨8192<ar.getD 0 0 / 2 then ((0,170),s,t) else if r / 4=10 then Cc s t r (ar.getD 0 0 / 2) 1 else if ar.getD 0 0 / 2=0 then ((72,0),s,t) else Cc s t r (ar.getD 0 0 / 2) 0
 | .slot i=>((eU s.h r i,0),s,t)
end
def QP (f:Nat):PO :=
 if f=171 then .same else
 if f=172 then .other else
 if f=174 then .isNil else
 if f=175 then .notNil else
 if f=176 then .self else
 if f=177 then .isKind else
 if f=178 then .ivSize else
 if f=179 then .ivAt else
 if f=180 then .copy else
 if f=199 then .neg else
 if f=200 then .abs else
 if f=201 then .even else
 if f=202 then .odd else
 if f=203 then .print else
 if f=204 then .len else
 if f=205 then .asStr else
 if f=206 then .symLess else
 if f=207 then .size else
 if f=208 then .empty else
 if f=209 then .byteAt else
 if f=210 then .bytePut else
 if f=211 then .join else
 if f=212 then .eq else
 if f=213 then .less else
 if f=214 then .asSym else
 if f=215 then .at else
 if f=216 then .fresh else
 if f=217 then .sized else
 if f=173 then .cls else
 if f=292 then .not else
 if f=293 then .and else
 if f=294 then .or else
 .self
def Qc (g:Nat):PO :=
 if g=183 then .num iF else
 if g=184 then .num fD else
 if g=185 then .num iG else
 if g=186 then .num gO else
 if g=187 then .num gt else
 if g=188 then .num iJ else
 if g=189 then .num pu else
 if g=190 then .num iy else
 if g=191 then .num dp else
 if g=193 then .cmp (fun n m=>decide (n<m)) else
 if g=194 then .cmp (fun n m=>decide (n > m)) else
 if g=195 then .cmp (fun n m=>decide (n<=m)) else
 if g=196 then .cmp (fun n m=>decide (n ≥ m)) else
 if g=197 then .num (fun n m=>(if m<n then m else n,0)) else
 if g=198 then .num (fun n m=>(if n<m then m else n,0)) else
 .self
def jq:PF->PO
 | .fn f=>QP f
 | .clo _ g=>Qc g
 | .slot _ i=>.slot i
 | .nil=>.self
def xd (s:SP) (k:Int) (x:ByteArray) (r:Int) (ar:List Int):Prop:=∃ n p,gv (fi k) x=some (n,p)∧p≠.nil∧(ar.length:Int)=n∧∀ w∈r :: ar,cK s.h w≠0
noncomputable instance (s:SP) (k:Int) (x:ByteArray) (r:Int) (ar:List Int):Decidable (xd s k x r ar):=Classical.propDecidable _
noncomputable def rK (s:SP) (t:TB) (v:KV) (k:Int) (x:ByteArray) (r:Int) (ar:List Int):PR :=
 if xd s k x r ar then
  if iR v k (cK s.h r)=true∧gd s.h k r=true then
   match gv (fi k) x with
   | some (_,p)=>bS s t v r ar (jq p)
   | none=>((0,1),s,t)
  else ((0,170),s,t)
 else ((0,1),s,t)
abbrev iY (p:Int × Int):Value:=.tuple #[ac p.1,ac p.2]
theorem nN {r:RH}{w:Int}:(aU w=1->cK r w=8)∧(aU w=2->cK r w=9)∧(aU w=0->cK r w=0):=by
 refine ⟨fun h=>?_,fun h=>?_,fun h=>?_⟩
 ·have e:mQ r w=(8,0):=by unfold mQ;rw [a0b h]
  unfold cK;rw [e];rfl
 ·have e:mQ r w=(9,0):=by unfold mQ;rw [a0a (by omega),a0b h]
  unfold cK;rw [e];rfl
 ·have e:mQ r w=(0,10):=by unfold mQ;rw [a0a (by omega),a0a (by omega),a0a (by omega)]
  unfold cK;rw [e];rfl
theorem CR {r:RH}{w:Int} (h0:cK r w≠0) (h8:cK r w≠8) (h9:cK r w≠9):aU w=3:=by
 obtain ⟨a,b,c⟩:=nN (r:=r) (w:=w)
 have:aU w=0∨aU w=1∨aU w=2∨aU w=3:=by have:=bE w;omega
 rcases this with h | h | h | h
 ·exact absurd (c h) h0
 ·exact absurd (a h) h8
 ·exact absurd (b h) h9
 ·exact h
section
variable {H:au}{b:Nat}{F:aS}{s:SP}{t:TB}{v:KV}{Q:QT}{r x:Int}{a:Option Addr}{q:Addr}{l c:Nat}{ws ar:List Int}{k:Int}{y:ByteArray}
theorem zX (hK:PK H b F s t) (hv:KAllW s t v) (hr:Rd 1 H (some q) l (az [x])) (h:∀ H',Fr [] H H'->Q (iY (bS s t v r [x] .isKind).1) H'):ag PP 177 #[cv b r (some q) l c] Q H:=by
 apply IF;dsimp only [aL,aN,aA,aP,bk,aC,ah,ak,ay,aK,aF,bc,aZ,ac,bf,av,am,aJ,ax];have hl:0<(l:Int):=by have:=hr.1;simp [az] at this;omega
 have f:=Fr.push [] H (.cells (cc b r (some q) l c) 138);have hb:=bI.new H (cc b r (some q) l c) 138;have a0:=Rd.argc (Rd.nilF hr f) 0 (by simp);simp only [bS,a1K] at h;refine ⟨_,hb.cell 0,_,hb.cell 1,_,_,_,hb.cell 2,_,_,_,hb.cell 2,⟨by decide,hl⟩,q,rfl,_,a0,pm (hK.nil f) hv fun H1 f1=>⟨_,rfl,trivial,?_⟩⟩;rw [a1K];have f01:=f.trans f1;have cj:=hb.fr f1 (by simp);have a1:=Rd.argc (Rd.nilF hr f01) 0 (by simp);rw [bn,ae];refine aD (fun hn=>?_) fun hn=>⟨_,_,_,cj.cell 2,⟨by decide,hl⟩,q,rfl,_,a1,kJ (hK.nil f01).kinds ?_⟩
 ·have:=h _ f01;rw [a0b hn] at this;exact this
 rw [a0a hn] at h;have Jb:cK s.h x=12:=a0v hn;rw [a1K];unfold mr;rw [a0b (CR (r:=s.h) (by omega) (by omega) (by omega))];exact ⟨_,_,rfl,_,cj.cell 0,_,cj.cell 1,_,_,_,cj.cell 2,_,cj.cell 1,yT (hK.nil f01) hv fun H3 f3=>⟨_,rfl,dY ⟨_,_,rfl,h _ (f01.trans f3)⟩⟩⟩
theorem sq {n:Int} (h:Q (if n=12 then .tuple #[.bool true,ac 0] else if n=8 then .tuple #[.bool false,ac 0] else .tuple #[.bool false,ac 170]) H):ag PP 351 #[ac n] Q H:=by
 apply Hf;dsimp only [aP,ah,ac,bJ];rw [bq,ae];refine aD (fun h1=>by rw [a0b h1] at h;exact h) fun h1=>?_;rw [a0a h1] at h;rw [bq,ae];exact aD (fun h2=>by rw [a0b h2] at h;exact h) fun h2=>by rw [a0a h2] at h;exact h
theorem BQ (hr:Rd 1 H (some q) l (az [x])) (h:∀ H',Fr [] H H'->Q (iY (bS s t v r [x] .and).1) H'):ag PP 293 #[cv b r (some q) l c] Q H:=by
 have hl:0<(l:Int):=by have:=hr.1;simp [az] at this;omega
 apply Ey;dsimp only [aN,aA,aP,ah,pE,ak,ay,aK,bc,ac,bf,av,am,aJ,ax];have f:=Fr.push [] H (.cells (cc b r (some q) l c) 138);have hb:=bI.new H (cc b r (some q) l c) 138;have a0:=Rd.argc (Rd.nilF hr f) 0 (by simp);simp only [bS,a1K] at h;refine ⟨_,_,_,hb.cell 2,⟨by decide,hl⟩,q,rfl,_,a0,sq ?_⟩;rw [a1K];have hf:=h _ f;split
 ·rename_i h1;rw [a0b h1] at hf;refine ⟨_,_,rfl,?_⟩;simp only [show ((0:Int) != 0)=false from rfl,a0f,a0P];exact ⟨_,hb.cell 1,dY ⟨_,_,rfl,by rw [bq];exact hf⟩⟩
 ·rename_i h1;rw [a0a h1] at hf;split
  ·rename_i h2;rw [a0b h2] at hf;refine ⟨_,_,rfl,?_⟩;simp only [show ((0:Int) != 0)=false from rfl,a0f];exact dY ⟨_,_,rfl,hf⟩
  ·rename_i h2;rw [a0a h2] at hf;exact ⟨_,_,rfl,hf⟩
theorem PA (hr:Rd 1 H (some q) l (az [x])) (h:∀ H',Fr [] H H'->Q (iY (bS s t v r [x] .or).1) H'):ag PP 294 #[cv b r (some q) l c] Q H:=by
 have hl:0<(l:Int):=by have:=hr.1;simp [az] at this;omega
 apply Ht;dsimp only [aN,aA,aP,ah,pE,ak,ay,aK,bc,ac,bf,av,am,aJ,ax];have f:=Fr.push [] H (.cells (cc b r (some q) l c) 138);have hb:=bI.new H (cc b r (some q) l c) 138;have a0:=Rd.argc (Rd.nilF hr f) 0 (by simp);simp only [bS,a1K] at h;refine ⟨_,_,_,hb.cell 2,⟨by decide,hl⟩,q,rfl,_,a0,sq ?_⟩;rw [a1K];have hf:=h _ f;split
 ·rename_i h1;rw [a0b h1] at hf;refine ⟨_,_,rfl,?_⟩;simp only [show ((0:Int) != 0)=false from rfl,a0f,a0P];exact dY ⟨_,_,rfl,hf⟩
 ·rename_i h1;rw [a0a h1] at hf;split
  ·rename_i h2;rw [a0b h2] at hf;refine ⟨_,_,rfl,?_⟩;simp only [show ((0:Int) != 0)=false from rfl,a0f];exact ⟨_,hb.cell 1,dY ⟨_,_,rfl,by rw [bq];exact hf⟩⟩
  ·rename_i h2;rw [a0a h2] at hf;exact ⟨_,_,rfl,hf⟩
theorem MU (hK:PK H b F s t) (hn:kx (cG r)) (h:∀ H',Fr [] H H'->Q (iY (bS s t v r [] .abs).1) H'):ag PP 200 #[cv b r a l c] Q H:=by
 apply FM;dsimp only [aL,aN,aA,aC,ah,ak,aX,ay,aK,aF,aZ,ac,av,am,aJ,ax];have f:=Fr.push [] H (.cells (cc b r a l c) 138);have hb:=bI.new H (cc b r a l c) 138;refine ⟨_,hb.cell 0,_,hb.cell 1,_,_,_,hb.cell 2,rD (hK.nil f) fun H1 f1=>⟨_,rfl,?_⟩⟩;have f01:=f.trans f1;have cj:=hb.fr f1 (by simp);simp only [bS] at h;rw [ae];refine aD (fun h0=>?_) fun h0=>⟨_,cj.cell 1,?_⟩
 ·rw [a0b h0] at h;exact ⟨_,cj.cell 0,_,cj.cell 1,_,_,_,cj.cell 2,BE (hK.nil f01) hn fun H' f'=>⟨_,_,rfl,h _ (f01.trans f')⟩⟩
 ·rw [a0a h0] at h;exact h _ f01
theorem jX {n:Int} (hn:0<=n∧n<4096):ee s.h t (4*n+2)=nQ t n:=by
 unfold ee;have O8:aU (4*n+2)=2:=by
  unfold aU;rw [a0a (by omega),a0b (by omega)]
 rw [a0b O8,show (4*n+2) / 4=n by omega]
theorem ii (hs:mR s.h k (bN y)) (k1:1<=k) (k2:k<=65536):ee s.h t (4*k)=y:=by
 have e:=sC hs k1 k2;unfold ee;rw [a0a (by rw [fM k1 k2];decide),km hs k1 k2];simp only [a0j];rw [e];refine a3q ?_;show ((bN y).map fun z=>UInt8.ofNat z.toNat).toArray=y.data;unfold bN;rw [a3n]
 have:(fun z:Int=>UInt8.ofNat z.toNat) ∘ (fun u:UInt8=>(u.toNat:Int))=id:=by
  funext u
  simp
 rw [this];simp
theorem x9 (hK:PK H b F s t){n:Int} (hn:0<=n∧n<4096) (hr:Rd 1 H (some q) l (az [x])) (h:∀ H',Fr [] H H'->Q (iY (bS s t v (4*n+2) [x] .symLess).1) H') :
  ag PP 206 #[cv b (4*n+2) (some q) l c] Q H:=by
 have hl:0<(l:Int):=by have:=hr.1;simp [az] at this;omega
 apply K3;dsimp only [aL,aN,aA,aP,aC,eI,ah,ak,ay,aK,aF,bc,aZ,ac,bf,av,am,aJ,ax];have f:=Fr.push [] H (.cells (cc b (4*n+2) (some q) l c) 138);have hb:=bI.new H (cc b (4*n+2) (some q) l c) 138;have a0:=Rd.argc (Rd.nilF hr f) 0 (by simp);simp only [bS,a1K] at h;refine ⟨_,_,_,hb.cell 2,⟨by decide,hl⟩,q,rfl,_,a0,lm (hK.nil f).kinds ⟨_,rfl,?_⟩⟩;rw [a1K,bn,ae];refine aD (fun hk=>by have:=h _ f;rw [a0b hk] at this;exact this) fun hk=>?_;rw [a0a hk] at h;have OU:aU x=2:=a0v hk;have hx:∃ m,x=4*m+2∧0<=m∧m<4096:=by
  have:=bE x;exact ⟨x / 4,by omega,by omega,by omega⟩
 obtain ⟨m,rfl,m0,m1⟩:=hx;rw [jX (s:=s) hn,jX (s:=s) ⟨m0,m1⟩] at h;rw [a1K] at a0;refine ⟨_,hb.cell 0,_,hb.cell 1,_,_,_,hb.cell 2,_,hb.cell 1,_,hb.cell 0,_,hb.cell 1,_,_,_,hb.cell 2,_,_,_,hb.cell 2,⟨by decide,hl⟩,q,rfl,_,a0,pJ (hK.nil f) hn fun H2 f2=>?_⟩;have f02:=f.trans f2;have k8:=hb.fr f2 (by simp);have a2:=Rd.argc (Rd.nilF hr f02) 0 (by simp);rw [a1K] at a2;exact ⟨_,rfl,⟨⟨a2,trivial⟩,⟨k8.cell 2,trivial⟩,⟨k8.cell 0,k8.cell 1,k8.cell 2,trivial⟩,trivial⟩,pJ (hK.nil f02) ⟨m0,m1⟩ fun H3 f3=>⟨_,rfl,trivial,dY ⟨_,_,rfl,trivial,h _ (f02.trans f3)⟩⟩⟩
theorem mJ (hK:PK H b F s t) (hv:KAllW s t v) (hs:mR s.h k (bN y)) (k1:1<=k) (k2:k<=65536) (hy:y.size<=8192) (hx:cK s.h x=10->oh s x) (hr:Rd 1 H (some q) l (az [x])) (gw:cK s.h x≠10->∀ H',Fr [] H H'->Q (.tuple #[.string ⟨#[]⟩,.string ⟨#[]⟩,.bool false]) H')
  (h:cK s.h x=10->(ee s.h t x).size<=8192->∀ H',Fr [] H H'->Q (.tuple #[.string y,.string (ee s.h t x),.bool true]) H'):ag PP 306 #[cv b (4*k) (some q) l c] Q H:=by
 by_cases qz:cK s.h x=10
 ·obtain ⟨j,z,rfl,hz,SK⟩:=hx qz;have hj:=ju hv hz;have e:=ii (t:=t) hz hj.1 hj.2;rw [e] at h;exact qp hK hv hs hz (by omega) (by omega) hr fun H' f=>h qz SK H' f
 ·exact wn hK hv hs hy hx hr (fun H' f=>gw qz H' f) fun j z H' e hz SK f=>by
   have hj:=ju hv hz;exact absurd (by rw [e];exact Bj hz hj.1 hj.2) qz
theorem zE (hK:PK H b F s t) (hv:KAllW s t v) (hs:mR s.h k (bN y)) (k1:1<=k) (k2:k<=65536) (hy:y.size<=8192) (hx:cK s.h x=10->oh s x) (hr:Rd 1 H (some q) l (az [x])) (h:∀ H',PK H' b F (bS s t v (4*k) [x] .join).2.1 t->Fr F H H'->Q (iY (bS s t v (4*k) [x] .join).1) H') :
  ag PP 211 #[cv b (4*k) (some q) l c] Q H:=by
 apply Fw;dsimp only [aL,aN,aA,ah,ak,jN,bP,ay,aK,aF,aZ,ac,av,am,aJ,aO,ax,aI];have f:=Fr.push [] H (.cells (cc b (4*k) (some q) l c) 138);have hb:=bI.new H (cc b (4*k) (some q) l c) 138;simp only [bS,a1K,ii hs k1 k2] at h;refine ⟨_,hb.cell 0,_,hb.cell 1,_,_,_,hb.cell 2,mJ (hK.nil f) hv hs k1 k2 hy hx (Rd.nilF hr f) (fun hn H1 f1=>⟨_,_,_,rfl,?_⟩) fun qz SK H1 f1=>⟨_,_,_,rfl,?_⟩⟩
 ·rw [a0b hn] at h;exact h _ (hK.nil (f.trans f1)) (iN (f.trans f1) (Fr.refl F H1))
 rw [a0a (by simpa using qz)] at h;have f01:=f.trans f1;have cj:=hb.fr f1 (by simp);rw [a0p,a0f];rw [ao (by omega) (by omega),ae];refine aD (fun hg=>?_) fun HS=>?_
 ·rw [a0b (by omega)] at h;exact h _ (hK.nil f01) (iN f01 (Fr.refl F H1))
 rw [a0a (by omega)] at h;refine ⟨_,cj.cell 0,_,cj.cell 1,_,_,_,cj.cell 2,?_⟩;rw [ae,a0a (by rw [show IntKind.i64.max=9223372036854775807 from rfl];omega)];exact yd (hK.nil f01) (by rw [a3X];omega) fun H' w8 f'=>⟨_,_,rfl,h H' w8 (iN f01 f')⟩
theorem CT (hK:PK H b F s t) (hv:KAllW s t v) (hs:mR s.h k (bN y)) (k1:1<=k) (k2:k<=65536) (hy:y.size<=8192) (hx:cK s.h x=10->oh s x) (hr:Rd 1 H (some q) l (az [x])) (h:∀ H',Fr [] H H'->Q (iY (bS s t v (4*k) [x] .eq).1) H') :
  ag PP 212 #[cv b (4*k) (some q) l c] Q H:=by
 apply IT;dsimp only [aL,aN,aA,aP,ah,ak,jN,ay,aK,aF,aZ,ac,av,am,aJ,ax];have f:=Fr.push [] H (.cells (cc b (4*k) (some q) l c) 138);have hb:=bI.new H (cc b (4*k) (some q) l c) 138;simp only [bS,a1K,ii hs k1 k2] at h;refine ⟨_,hb.cell 0,_,hb.cell 1,_,_,_,hb.cell 2,mJ (hK.nil f) hv hs k1 k2 hy hx (Rd.nilF hr f) (fun hn H1 f1=>⟨_,_,_,rfl,?_⟩) fun qz SK H1 f1=>⟨_,_,_,rfl,?_⟩⟩
 ·rw [a09 hn,a3I] at h;rw [a0f];exact dY ⟨_,_,rfl,h _ (f.trans f1)⟩
 ·rw [a00 qz,a4m] at h;rw [a0P];exact dY ⟨_,_,rfl,h _ (f.trans f1)⟩
theorem Ef (hK:PK H b F s t) (hv:KAllW s t v) (hs:mR s.h k (bN y)) (k1:1<=k) (k2:k<=65536) (hy:y.size<=8192) (hx:cK s.h x=10->oh s x) (hr:Rd 1 H (some q) l (az [x])) (h:∀ H',Fr [] H H'->Q (iY (bS s t v (4*k) [x] .less).1) H') :
  ag PP 213 #[cv b (4*k) (some q) l c] Q H:=by
 apply Kb;dsimp only [aL,aN,aA,aP,ah,ak,jN,ay,aK,aF,aZ,ac,av,am,aJ,ax];have f:=Fr.push [] H (.cells (cc b (4*k) (some q) l c) 138);have hb:=bI.new H (cc b (4*k) (some q) l c) 138;simp only [bS,a1K,ii hs k1 k2] at h;refine ⟨_,hb.cell 0,_,hb.cell 1,_,_,_,hb.cell 2,mJ (hK.nil f) hv hs k1 k2 hy hx (Rd.nilF hr f) (fun hn H1 f1=>⟨_,_,_,rfl,?_⟩) fun qz SK H1 f1=>⟨_,_,_,rfl,?_⟩⟩
 ·rw [a0b hn] at h;exact h _ (f.trans f1)
 ·rw [a0a (by simpa using qz)] at h;rw [a0p,a0f];exact dY ⟨_,_,rfl,h _ (f.trans f1)⟩
end
theorem Fv {n x:Int}:(bG n x).2=170↔aU x≠1:=by
 unfold bG;split
 ·rename_i h;exact ⟨fun _=>h,fun _=>rfl⟩
 ·rename_i h;split
  ·exact ⟨fun e=>absurd (show (171:Int)=170 from e) (by decide),fun e=>absurd e h⟩
  ·exact ⟨fun e=>absurd (show (0:Int)=170 from e) (by decide),fun e=>absurd e h⟩
section
variable {H:au}{b:Nat}{F:aS}{s:SP}{t:TB}{v:KV}{Q:QT}{r x:Int}{a:Option Addr}{q:Addr}{l c:Nat}{ws ar:List Int}{k:Int}{y:ByteArray}
theorem xM (hK:PK H b F s t){w:Int} (hr:Rd 1 H (some q) l (az [x,w])) (ho:q.block∉F) (h:∀ H',PK H' b F (bS s t v r [x,w] .bytePut).2.1 t->Fr F H H'->Q (iY (bS s t v r [x,w] .bytePut).1) H') :
  ag PP 210 #[cv b r (some q) l c] Q H:=by
 have an:=hK.lt;have hlen:l=2:=by have:=hr.1;simpa [az] using this.symm
 subst hlen;apply Dk;dsimp only [aL,aN,aA,aC,ah,ak,bP,aX,ay,aK,aF,bc,aZ,ac,bf,av,am,aJ,ax];have f:=Fr.push [] H (.cells (cc b r (some q) 2 c) 138);have hb:=bI.new H (cc b r (some q) 2 c) 138;have Tx:H.size∉F:=fun hm=>by have:=an _ hm;omega
 simp only [bS,a1K,List.getD_cons_succ] at h;refine ⟨_,hb.cell 0,_,hb.cell 1,_,_,_,hb.cell 2,_,hb.cell 1,gC (hK.nil f) fun H1 f1=>⟨_,_,rfl,?_⟩⟩;have f01:=f.trans f1;have cj:=hb.fr f1 (by simp);refine ⟨_,cj.cell 0,_,cj.cell 1,_,_,_,cj.cell 2,qG (hK.nil f01) (Rd.nilF hr f01) fun H2 f2=>?_⟩;have f02:=f01.trans f2;have k8:=cj.fr f2 (by simp);have a2:=Rd.argc (Rd.nilF hr f02) 1 (by simp);rw [show ([x,w].getD 1 0)=w from rfl] at a2;refine ⟨_,_,rfl,_,_,_,k8.cell 2,⟨by decide,by decide⟩,q,rfl,_,a2,qt (hK.nil f02).kinds ?_⟩;have bad:aU x≠1∨aU w≠1∨w / 2<0∨255<w / 2->Q (.tuple #[ac 0,ac 170]) H2:=fun hc=>by
  rw [a0b hc] at h;exact h _ (hK.nil f02) (iN f02 (Fr.refl F _))
 generalize hI:bG (dl s.h r).1 x=I at *;have hIe:I.2=170↔aU x≠1:=by rw [←hI];exact Fv
 unfold mr;split
 ·rename_i O8;refine ⟨_,_,rfl,?_⟩;rw [bq,ae];refine aD (fun h1=>bad (.inl (hIe.1 h1))) fun h1=>?_;simp only [show ((0:Int) != 0)=false from rfl,a0f];rw [ae];refine aD (fun h2=>bad (.inr (.inr (.inl h2)))) fun h2=>?_;rw [ae];refine aD (fun h3=>bad (.inr (.inr (.inr h3)))) fun h3=>?_;have Oq:aU x=1:=a0v fun e=>h1 (hIe.2 e);rw [a0a (by simp only [a21];exact ⟨by simpa using Oq,by simpa using O8,by omega,by omega⟩)] at h;rw [bn,ae];refine aD (fun h4=>?_) fun h4=>?_
  ·rw [a0b h4] at h;exact h _ (hK.nil f02) (iN f02 (Fr.refl F _))
  rw [a0a h4] at h;refine ⟨_,_,_,k8.cell 2,⟨by decide,by decide⟩,q,rfl,_,a2,_,k8.cell 0,_,k8.cell 1,_,_,_,k8.cell 2,_,k8.cell 1,xP (hK.nil f02) fun H4 J4 f4=>?_⟩;have f04:=iN f02 f4;have Jq:=k8.fr f4 Tx;have OD:=hr.fr' f04 fun p hp=>by cases hp;exact ho
  have a4:=Rd.argc OD 1 (by simp);exact ⟨_,rfl,⟨⟨a4,trivial⟩,⟨Jq.cell 2,trivial⟩,trivial⟩,h H4 J4 f04⟩
 ·rename_i O8;refine ⟨_,_,rfl,?_⟩;rw [bq,ae];refine aD (fun h1=>bad (.inl (hIe.1 h1))) fun h1=>?_;exact bad (.inr (.inl O8))
theorem Cm (hK:PK H b F s t) (hs:mR s.h k (bN y)) (k1:1<=k) (k2:k<=65536) (hy:y.size<=8192) (hw:WFT t) (hm:t.texts.length<=4096)
  (h:∀ H' F',PK H' b F' (bS s t v (4*k) [] .asSym).2.1 (bS s t v (4*k) [] .asSym).2.2->Up F H F' H'->Q (iY (bS s t v (4*k) [] .asSym).1) H'):ag PP 214 #[cv b (4*k) a l c] Q H:=by
 apply D5;dsimp only [aL,aN,aA,du,eI,ah,ak,bP,aX,ay,aK,aF,aZ,ac,av,am,aJ,aO,ax];have f:=Fr.push [] H (.cells (cc b (4*k) a l c) 138);have hb:=bI.new H (cc b (4*k) a l c) 138;simp only [bS,ii hs k1 k2] at h;refine ⟨_,hb.cell 0,_,hb.cell 1,_,_,_,hb.cell 2,_,hb.cell 1,tH (hK.nil f) hs k1 k2 (by omega) fun H1 f1=>⟨_,rfl,?_⟩⟩;have f01:=f.trans f1;have cj:=hb.fr f1 (by simp);have bad:y.size<1∨96<y.size->Q (.tuple #[ac 0,ac 170]) H1:=fun hc=>by
  rw [a0b hc] at h;exact h _ _ (hK.nil f01) (Up.of_nil f01)
 rw [ae];refine aD (fun h1=>bad (.inl (by omega))) fun h1=>?_;rw [ae];refine aD (fun h2=>bad (.inr (by omega))) fun h2=>?_;rw [a0a (by omega)] at h;have s5:=hK.nil f01;obtain ⟨tb,F2,hc,hT,ff,_,s6,_⟩:=s5.tb;refine ⟨_,cj.cell 0,?_⟩;apply Bu;dsimp only [ah,aF,aE,cD,am];refine ⟨_,rfl,_,hc,⟨_,rfl,tA hT fun H2 F3 So u2=>⟨_,_,rfl,?_⟩⟩⟩;obtain ⟨F',JP,u3⟩:=s6 H2 F3 _ So u2;have u:=eZ f01 u3;have hq:=h H2 F' JP u;rw [bn,ae];refine aD (fun e0=>?_) fun e0=>?_
 ·rw [a0b e0] at hq;exact hq
 rw [a0a e0] at hq;have e1:=kH y (a0v e0);obtain ⟨m,e1,e2,_⟩:=e1;have TN:=(a3s.1 e2).1;have OJ:=(tV t y).1;have w1:=iq hw y;have Rx:=w1.len;have UP:=w1.m1;rw [e1] at hq ⊢;exact CS ⟨by omega,by omega⟩ ⟨_,_,rfl,hq⟩
theorem CK (hK:PK H b F s t) (hv:KAllW s t v) (IN:1<=cK s.h r∧cK s.h r<=65536){n:Nat} (hn:(dl s.h r).1=(n:Int)) (Oc:n<=100000) (Jl:¬ (cK s.h r=10∨(cK s.h r=11∧n≠0)∨fX v (cK s.h r)=true)->∀ H',Fr [] H H'->Q (.tuple #[ac r,ac 0]) H')
  (h:cK s.h r=10∨(cK s.h r=11∧n≠0)∨fX v (cK s.h r)=true->∀ H',PK H' b F (s.makeP (cK s.h r) (dl s.h r).2 (dm s.h r n)).2 t->Fr F H H'->Q (.tuple #[ac (s.makeP (cK s.h r) (dl s.h r).2 (dm s.h r n)).1.1,ac (s.makeP (cK s.h r) (dl s.h r).2 (dm s.h r n)).1.2]) H') :
  ag PP 180 #[cv b r a l c] Q H:=by
 have an:=hK.lt;apply Gb;dsimp only [aL,aN,aA,bk,aC,cq,ah,ak,bP,ay,aK,aF,aZ,ac,av,am,aJ,ax];have f:=Fr.push [] H (.cells (cc b r a l c) 138);have hb:=bI.new H (cc b r a l c) 138;refine ⟨_,hb.cell 0,_,hb.cell 1,_,_,_,hb.cell 2,_,hb.cell 1,pm (hK.nil f) hv fun H1 f1=>⟨_,rfl,?_⟩⟩;have f01:=f.trans f1;have cj:=hb.fr f1 (by simp);refine ⟨_,cj.cell 0,_,cj.cell 1,_,_,_,cj.cell 2,_,cj.cell 1,gC (hK.nil f01) fun H2 f2=>⟨_,_,rfl,?_⟩⟩;have f02:=f01.trans f2;have k8:=cj.fr f2 (by simp);have mk:∀ {H4:au},Fr [] H H4->bI H4 H.size (cc b r a l c)->(cK s.h r=10∨(cK s.h r=11∧n≠0)∨fX v (cK s.h r)=true) ->
   ∃ p17:Option Addr,aq H4 (⟨H.size,0,none⟩:Addr)=some (.pointer p17)∧∃ n18:Int,aq H4 ((⟨H.size,0,none⟩:Addr).add 1)=some (ac n18)∧∃ a19:Option Addr,∃ l19:Nat,∃ c19:Nat,aq H4 ((⟨H.size,0,none⟩:Addr).add 2)=some (.slice a19 l19 c19)∧∃ p20:Option Addr,aq H4 (⟨H.size,0,none⟩:Addr)=some (.pointer p20)∧∃ n21:Int,aq H4 ((⟨H.size,0,none⟩:Addr).add 1)=some (ac n21)∧∃ a22:Option Addr,∃ l22:Nat,∃ c22:Nat,aq H4 ((⟨H.size,0,none⟩:Addr).add 2)=some (.slice a22 l22 c22)∧∃ n23:Int,aq H4 ((⟨H.size,0,none⟩:Addr).add 1)=some (ac n23) ∧
    ag PP 291 #[.agg #[.pointer p20,ac n21,.slice a22 l22 c22],ac n23] (fun v24 H3=>∃ a25:Option Addr,∃ l25:Nat,∃ c25:Nat,v24=.slice a25 l25 c25∧((aq H3 (⟨H.size,0,none⟩:Addr)=some (.pointer p17)∧(aq H3 ((⟨H.size,0,none⟩:Addr).add 1)=some (ac n18)∧(aq H3 ((⟨H.size,0,none⟩:Addr).add 2)=some (.slice a19 l19 c19)∧True)))∧True) ∧
     ag PP 290 #[.agg #[.pointer p17,ac n18,.slice a19 l19 c19],ac (cK s.h r),ac (dl s.h r).2,.slice a25 l25 c25] (fun v26 H4=>∃ n27:Int,∃ n28:Int,v26=.tuple #[ac n27,ac n28]∧True∧Q (.tuple #[ac n27,ac n28]) H4) H3) H4:=by
  intro H4 f4 Jq hc;refine ⟨_,Jq.cell 0,_,Jq.cell 1,_,_,_,Jq.cell 2,_,Jq.cell 0,_,Jq.cell 1,_,_,_,Jq.cell 2,_,Jq.cell 1,uL (hK.nil f4) hn (by omega) fun q H3 Ji OE f3=>?_⟩;have f03:=f4.trans f3;have Ju:=Jq.fr f3 (by simp);refine ⟨_,_,_,rfl,⟨⟨Ju.cell 0,Ju.cell 1,Ju.cell 2,trivial⟩,trivial⟩,zf (hK.nil f03) IN Ji.rd (fun p hp hm=>?_) (by omega) fun H' w8 f'=>⟨_,_,rfl,trivial,h hc H' w8 (iN f03 f')⟩⟩;cases hp
  have:=an _ hm
  have:=f4.1;simp only at *;omega
 have other:(cK s.h r≠10)->¬ (cK s.h r=11∧n≠0)->∀ {H4:au},Fr [] H H4->bI H4 H.size (cc b r a l c)->∃ p41:Option Addr,aq H4 (⟨H.size,0,none⟩:Addr)=some (.pointer p41)∧∃ n42:Int,aq H4 ((⟨H.size,0,none⟩:Addr).add 1)=some (ac n42)∧∃ a43:Option Addr,∃ l43:Nat,∃ c43:Nat,aq H4 ((⟨H.size,0,none⟩:Addr).add 2)=some (.slice a43 l43 c43)∧∃ n44:Int,aq H4 ((⟨H.size,0,none⟩:Addr).add 1)=some (ac n44) ∧
   ag PP 289 #[.agg #[.pointer p41,ac n42,.slice a43 l43 c43],ac n44] (fun v45 H7=>∃ b46:Bool,v45=.bool b46∧cond b46 (∃ p17:Option Addr,aq H7 (⟨H.size,0,none⟩:Addr)=some (.pointer p17)∧∃ n18:Int,aq H7 ((⟨H.size,0,none⟩:Addr).add 1)=some (ac n18)∧∃ a19:Option Addr,∃ l19:Nat,∃ c19:Nat,aq H7 ((⟨H.size,0,none⟩:Addr).add 2)=some (.slice a19 l19 c19)∧∃ p20:Option Addr,aq H7 (⟨H.size,0,none⟩:Addr)=some (.pointer p20)∧∃ n21:Int,aq H7 ((⟨H.size,0,none⟩:Addr).add 1)=some (ac n21)∧∃ a22:Option Addr,∃ l22:Nat,∃ c22:Nat,aq H7 ((⟨H.size,0,none⟩:Addr).add 2)=some (.slice a22 l22 c22)∧∃ n23:Int,aq H7 ((⟨H.size,0,none⟩:Addr).add 1)=some (ac n23) ∧
    ag PP 291 #[.agg #[.pointer p20,ac n21,.slice a22 l22 c22],ac n23] (fun v24 H3=>∃ a25:Option Addr,∃ l25:Nat,∃ c25:Nat,v24=.slice a25 l25 c25∧((aq H3 (⟨H.size,0,none⟩:Addr)=some (.pointer p17)∧(aq H3 ((⟨H.size,0,none⟩:Addr).add 1)=some (ac n18)∧(aq H3 ((⟨H.size,0,none⟩:Addr).add 2)=some (.slice a19 l19 c19)∧True)))∧True) ∧
     ag PP 290 #[.agg #[.pointer p17,ac n18,.slice a19 l19 c19],ac (cK s.h r),ac (dl s.h r).2,.slice a25 l25 c25] (fun v26 H4=>∃ n27:Int,∃ n28:Int,v26=.tuple #[ac n27,ac n28]∧True∧Q (.tuple #[ac n27,ac n28]) H4) H3) H7) (∃ n59:Int,aq H7 ((⟨H.size,0,none⟩:Addr).add 1)=some (ac n59)∧Q (.tuple #[ac n59,ac 0]) H7)) H4:=by
  intro g1 g2 H4 f4 Jq;refine ⟨_,Jq.cell 0,_,Jq.cell 1,_,_,_,Jq.cell 2,_,Jq.cell 1,yJ (hK.nil f4) hv fun H7 f7=>⟨_,rfl,?_⟩⟩;have f07:=f4.trans f7;have hb7:=Jq.fr f7 (by simp);cases hi:fX v (cK s.h r) with
  | true=>exact mk f07 hb7 (.inr (.inr hi))
  | false=>exact ⟨_,hb7.cell 1,Jl (fun hh=>by rcases hh with hh | hh | hh;exact g1 hh;exact g2 hh;rw [hi] at hh;cases hh) _ f07⟩
 rw [bq,ae];refine aD (fun qz=>mk f02 k8 (.inl qz)) fun g1=>?_;rw [bq,ae];refine aD (fun I3=>?_) fun g2=>other g1 (fun hh=>g2 hh.1) f02 k8;rw [hn,ae];exact aD (fun h0=>mk f02 k8 (.inr (.inl ⟨I3,by omega⟩))) fun g2=>other g1 (fun hh=>g2 (by omega)) f02 k8
theorem zG (hK:PK H b F s t) (hv:KAllW s t v){o:Int} (OD:r=4*o) (ho:1<=o∧o<=65536) (gw:(eR v o=none∨∃ i,eR v o=some i∧(i:Int)+1<=14∧o≠4)->∀ H',Fr [] H H'->Q (.tuple #[ac 0,ac 170]) H')
  (h:∀ i,eR v o=some i->((i:Int)+1<=14->o=4)->∀ H',PK H' b F (s.alloc r ((ch v i).length:Int) 0).2 t->Fr F H H'->Q (.tuple #[ac (vw s r ((ch v i).length:Int) 0),ac (s.alloc r ((ch v i).length:Int) 0).1.2]) H') :
  ag PP 216 #[cv b r a l c] Q H:=by
 apply KA;dsimp only [aL,aN,aA,du,ah,ak,dM,ay,aF,ac,mS,av,am,aJ,ax];have f:=Fr.push [] H (.cells (cc b r a l c) 138);have hb:=bI.new H (cc b r a l c) 138;refine ⟨_,hb.cell 1,kJ (hK.nil f).kinds ?_⟩;unfold mr;rw [a0b (by rw [OD];exact fM ho.1 ho.2)];dsimp only;rw [show r / 4=o by omega];refine ⟨_,_,rfl,_,hb.cell 0,vf (hK.nil f) hv fun H2 f2=>?_⟩;have f02:=f.trans f2;have k8:=hb.fr f2 (by simp);cases hp:eR v o with
 | none =>
  exact ⟨_,_,rfl,fun _ _=>False,gw (.inl hp) _ f02,fun _ _ hf=>hf.elim⟩
 | some i =>
  refine ⟨_,_,rfl,fun w H'=>w=[]∧H'=H2∧((i:Int)+1<=14->o=4),?_,?_⟩
  ·rw [show ((0:Int) != 0)=false from rfl,a0f,ae];refine aD (fun h14=>?_) fun h14=>⟨rfl,rfl,fun h=>absurd h h14⟩;rw [bn,ae];exact aD (fun h4=>gw (.inr ⟨i,hp,h14,h4⟩) _ f02) fun h4=>⟨rfl,rfl,fun _=>a0v h4⟩
  rintro w H' ⟨rfl,rfl,hc⟩ _;refine ⟨rfl,_,k8.cell 0,AS (hK.nil f02) hv (fun i' hi' a3 l3 c3 G H4 Ok f4 _=>⟨_,_,_,_,rfl,?_⟩) (fun hn=>by rw [hp] at hn;cases hn)⟩;rw [hp] at hi';cases hi';have f04:=f02.trans f4;have Jq:=k8.fr f4 (by simp);have Tk:l3=(ch v i).length:=by have:=Ok.len;simpa [bC] using this.symm
  subst Tk;simp only [show ((0:Int) != 0)=false from rfl,a0f];refine ⟨_,Jq.cell 0,_,Jq.cell 1,dX (hK.nil f04) fun sb F1 _ hS ff _ s6=>⟨_,rfl,⟨⟨Jq.cell 1,trivial⟩,trivial⟩,jZ hS fun H6 WY f6=>⟨_,_,rfl,trivial,h i hp hc H6 (s6 H6 _ WY f6) (iN f04 (f6.mono ff))⟩⟩⟩
theorem zB (hK:PK H b F s t){o:Int} (OD:r=4*o) (ho:1<=o∧o<=65536) (hr:Rd 1 H (some q) l (az [x])) (gw:((o≠10∧o≠11)∨aU x≠1∨x / 2<0∨8192<x / 2)->∀ H',Fr [] H H'->Q (.tuple #[ac 0,ac 170]) H')
  (hempty:o=11->x / 2=0->aU x=1->∀ H',Fr [] H H'->Q (.tuple #[ac 72,ac 0]) H')
  (h:¬ ((o≠10∧o≠11)∨aU x≠1∨x / 2<0∨8192<x / 2)->∀ fm:Int,(o=10∧fm=1)∨(o=11∧fm=0∧x / 2≠0)->∀ H',PK H' b F (s.alloc r (x / 2) fm).2 t->Fr F H H'->Q (.tuple #[ac (vw s r (x / 2) fm),ac (s.alloc r (x / 2) fm).1.2]) H') :
  ag PP 217 #[cv b r (some q) l c] Q H:=by
 have hlen:l=1:=by have:=hr.1;simpa [az] using this.symm
 subst hlen;apply KP;dsimp only [aL,aN,aA,aP,du,ah,ak,bP,aX,ay,aK,aF,bc,ac,bf,rL,av,am,aJ,ax];have f:=Fr.push [] H (.cells (cc b r (some q) 1 c) 138);have hb:=bI.new H (cc b r (some q) 1 c) 138;have a0:=Rd.argc (Rd.nilF hr f) 0 (by simp);have s5:=hK.nil f;refine ⟨_,hb.cell 1,kJ s5.kinds ?_⟩;unfold mr;rw [a0b (by rw [OD];exact fM ho.1 ho.2)];dsimp only;rw [show r / 4=o by omega];refine ⟨_,_,rfl,_,_,_,hb.cell 2,⟨by decide,by decide⟩,q,rfl,_,a0,qt s5.kinds ?_⟩;rw [a1K];have pair:∃ n e:Int,mr 1 (· / 2) x=.tuple #[ac n,ac e]∧((e=0∧aU x=1∧n=x / 2)∨(e=10∧aU x≠1)):=by
  unfold mr;split
  ·rename_i hk;exact ⟨_,_,rfl,.inl ⟨rfl,hk,rfl⟩⟩
  ·rename_i hk;exact ⟨_,_,rfl,.inr ⟨rfl,hk⟩⟩
 obtain ⟨n,e,hp,he⟩:=pair;rw [hp]
 let J:=fun (w:List Value) (H':au)=>H'=H.push (.cells (cc b r (some q) 1 c) 138)∧((w=[.bool true]∧((o≠10∧o≠11)∨aU x≠1∨x / 2<0∨8192<x / 2))∨(w=[.bool false]∧¬ ((o≠10∧o≠11)∨aU x≠1∨x / 2<0∨8192<x / 2)∧n=x / 2))
 refine ⟨_,_,rfl,J,?_,?_⟩
 ·have tail:(o=10∨o=11)->cond (e != 0) (J [.bool true] (H.push (.cells (cc b r (some q) 1 c) 138)))
    (cond (decide (n<0)) (J [.bool true] (H.push (.cells (cc b r (some q) 1 c) 138)))
     (J [.bool (decide (n > 8192))] (H.push (.cells (cc b r (some q) 1 c) 138)))):=by
   intro JN;rw [bn,ae];refine aD (fun h1=>⟨rfl,.inl ⟨rfl,?_⟩⟩) fun h1=>?_
   ·rcases he with ⟨e1,_⟩ | ⟨_,e2⟩
    ·exact absurd e1 h1
    ·exact .inr (.inl e2)
   have UT:e=0:=a0v h1;obtain ⟨_,hk,hn⟩:e=0∧aU x=1∧n=x / 2:=by
    rcases he with he | ⟨e2,_⟩
    ·exact he
    ·omega
   rw [ae];refine aD (fun h2=>⟨rfl,.inl ⟨rfl,.inr (.inr (.inl (by omega)))⟩⟩) fun h2=>⟨rfl,?_⟩;by_cases h3:n > 8192
   ·exact .inl ⟨by rw [a00 h3],.inr (.inr (.inr (by omega)))⟩
   ·refine .inr ⟨by rw [a09 h3],?_,hn⟩;rintro (h4 | h4 | h4 | h4)
    ·omega
    ·exact h4 hk
    ·omega
    ·omega
  rw [bn,ae];refine aD (fun qz=>?_) fun qz=>tail (.inl (a0v qz));rw [bn,ae];exact aD (fun I3=>⟨rfl,.inl ⟨rfl,.inl ⟨qz,I3⟩⟩⟩) fun I3=>tail (.inr (a0v I3))
 rintro w H' ⟨rfl,hz⟩ _;rcases hz with ⟨rfl,hz⟩ | ⟨rfl,hz,rfl⟩
 ·exact ⟨_,rfl,gw hz _ f⟩
 ·refine ⟨_,rfl,?_⟩;have Xo:=hz;simp only [a21] at Xo;have JC:aU x=1:=a0v Xo.2.1;rw [a0f,bq,ae];refine aD (fun qz=>?_) fun qz=>?_
  ·exact ⟨_,hb.cell 0,_,hb.cell 1,dX s5 fun sb F1 _ hS ff _ s6=>⟨_,rfl,⟨⟨hb.cell 1,trivial⟩,trivial⟩,jZ hS fun H3 W9 f3=>⟨_,_,rfl,trivial,h hz 1 (.inl ⟨qz,rfl⟩) H3 (s6 H3 _ W9 f3) (iN f (f3.mono ff))⟩⟩⟩
  ·rw [bq,ae];have I3:o=11:=a0v fun e=>hz (.inl ⟨qz,e⟩);refine aD (fun Ox=>pr ⟨by decide,by decide⟩ ⟨_,_,rfl,hempty I3 Ox JC _ f⟩) fun Ox=>?_;exact ⟨_,hb.cell 0,_,hb.cell 1,dX s5 fun sb F1 _ hS ff _ s6=>⟨_,rfl,⟨⟨hb.cell 1,trivial⟩,trivial⟩,jZ hS fun H3 W9 f3=>⟨_,_,rfl,trivial,h hz 0 (.inr ⟨I3,rfl,Ox⟩) H3 (s6 H3 _ W9 f3) (iN f (f3.mono ff))⟩⟩⟩
end
end
section
variable {H:au}{b:Nat}{F:aS}{s:SP}{t:TB}{v:KV}{Q:QT}{r:Int}{a:Option Addr}{l c:Nat}{ws:List Int}
theorem PG (hK:PK H b F s t) (hv:KAllW s t v){k:Int}{x:ByteArray} (hr:Rd 1 H a l (az ws))
  (h1:¬ xd s k x r ws->∀ H',Fr [] H H'->Q (.tuple #[ac 0,ac 1]) H') (Xp:xd s k x r ws->¬ (iR v k (cK s.h r)=true∧gd s.h k r=true)->∀ H',Fr [] H H'->Q (.tuple #[ac 0,ac 170]) H')
  (h:∀ n p,gv (fi k) x=some (n,p)->p≠.nil->(ws.length:Int)=n->(∀ w∈r :: ws,cK s.h w≠0)->iR v k (cK s.h r)=true->gd s.h k r=true->∀ H' n0 rr f g hh,Fr [] H H'->rJ H' n0 rr p (.func (.func f) g hh)->ag PP f ((g++#[cv b r a l c])++hh) (fun v42 H9=>∃ n43:Int,∃ n44:Int,v42=.tuple #[ac n43,ac n44]∧Q (.tuple #[ac n43,ac n44]) H9) H') :
  ag PP 30 #[QW b,ac k,.string x,ac r,.slice a l c] Q H:=by
 have Ty:bd PP 30=some (1,8,some (ac 0)):=by kernel_rfl
 apply Nq;dsimp only [aL,aN,aA,pz,aP,bk,aC,A7,du,ah,ak,aX,nX,ay,aK,aF,bc,aZ,ac,bf,bX,av,bm,gS,cD,am,aJ,bM,aO,ax,bj,bJ,aI];refine dX hK fun sb F1 _ _ _ _ _=>⟨_,rfl,?_⟩;simp only [a0l,a0f];have hwl:ws.length=l:=by have:=hr.1;simpa [az] using this
 have nilcase:∀ H1 (n:Int),Fr [] H H1->Wr (H1.push (.cells #[ac 0,.nilFunc] 133)) ⟨H1.size,0,none⟩∧Wr (aQ (H1.push (.cells #[ac 0,.nilFunc] 133)) ⟨H1.size,0,none⟩ (ac n)) ((⟨H1.size,0,none⟩:Addr).add 1) ∧
   (aQ (aQ (H1.push (.cells #[ac 0,.nilFunc] 133)) ⟨H1.size,0,none⟩ (ac n)) ((⟨H1.size,0,none⟩:Addr).add 1) .nilFunc)[H1.size]?=some (.cells #[ac n,.nilFunc] 133 (0,0)) ∧
   Fr [] H (aQ (aQ (H1.push (.cells #[ac 0,.nilFunc] 133)) ⟨H1.size,0,none⟩ (ac n)) ((⟨H1.size,0,none⟩:Addr).add 1) .nilFunc):=fun H1 n f1=>by
  have q0:=bI.new H1 #[ac 0,.nilFunc] 133;refine ⟨q0.wr (by decide),(q0.set 0 (ac n)).wr (o:=1) (by simp),?_,f1.trans ⟨by rw [ck,ck];simp,fun y hy _=>?_⟩⟩
  ·show (aQ (aQ (H1.push (.cells #[ac 0,.nilFunc] 133)) ⟨H1.size,0,none⟩ (ac n)) ⟨H1.size,1,none⟩ .nilFunc)[H1.size]?=_;rw [aM,aM];simp
  ·rw [cP (by show y≠H1.size;omega),cP (by show y≠H1.size;omega)];exact (Fr.push [] H1 _).2 y hy (by simp)
 refine Ck fun rm H1 m1=>⟨_,rfl,zQ m1 (fun e=>?_) fun k2 q val rr e hq=>?_⟩
 ·obtain ⟨w1,w2,_,w4⟩:=nilcase H1 0 m1.f;exact ⟨0,.inr ⟨false,rfl,w1,w2,h1 (fun ⟨n,p,g1,_⟩=>by rw [e] at g1;cases g1) _ w4⟩⟩
 by_cases hp:q=.nil
 ·subst hp;have hq:val=.nilFunc:=hq;subst hq;obtain ⟨w1,w2,w3,w4⟩:=nilcase H1 k2 m1.f;refine ⟨k2,.inr ⟨true,rfl,w1,w2,.inr ⟨?_,h1 (fun ⟨n,p,g1,g2,_⟩=>by rw [e] at g1;cases g1;exact g2 rfl) _ w4⟩⟩⟩;show aq _ ⟨H1.size,0+1,none⟩=_;simp only [aq,w3];rfl
 obtain ⟨f,g,hh,rfl⟩:=hq.func hp;have f01:=m1.f;have he:=e;generalize Ub:k2=n at *;refine ⟨n,.inl ⟨f,g,hh,true,rfl,?_⟩⟩;have q0:=bI.new H1 #[ac 0,.nilFunc] 133;refine ⟨q0.wr (by decide),(q0.set 0 (ac n)).wr (o:=1) (by simp),?_⟩;have q2:bI (aQ (aQ (H1.push (.cells #[ac 0,.nilFunc] 133)) ⟨H1.size,0,none⟩ (ac n)) ((⟨H1.size,0,none⟩:Addr).add 1) (.func (.func f) g hh)) H1.size #[ac n,.func (.func f) g hh]:=(q0.set 0 (ac n)).set 1 (.func (.func f) g hh);have f12:Fr [] H1 (aQ (aQ (H1.push (.cells #[ac 0,.nilFunc] 133)) ⟨H1.size,0,none⟩ (ac n)) ((⟨H1.size,0,none⟩:Addr).add 1) (.func (.func f) g hh)):=by
  refine ⟨by rw [ck,ck];simp,fun y hy _=>?_⟩;rw [cP (by show y≠H1.size;omega),cP (by show y≠H1.size;omega)];exact (Fr.push [] H1 _).2 y hy (by simp)
 generalize aQ (aQ (H1.push (.cells #[ac 0,.nilFunc] 133)) ⟨H1.size,0,none⟩ (ac n)) ((⟨H1.size,0,none⟩:Addr).add 1) (.func (.func f) g hh)=H2 at q2 f12 ⊢;simp only [a0p,a0f];have f02:=f01.trans f12;refine .inl ⟨f,g,hh,q2.cell 1,n,q2.cell 0,?_⟩;rw [bn,ae];refine aD (fun Ox=>h1 (fun ⟨n',p,g1,g2,g3,_⟩=>by rw [he] at g1;cases g1;exact Ox (by omega)) _ f02) fun Ox=>?_;have hn:(l:Int)=n:=a0v Ox;have hl:l<=1000:=by have:=Ah he;omega
 have p0:=bI.new H2 #[.pointer none,ac 0,.slice none 0 0] 138;have p1:=p0.set 0 (QW b);have p2:=p1.set 1 (ac r);have p3:=p2.set 2 (.slice a l c);refine ⟨p0.wr (by decide),p1.wr (o:=1) (by simp),p2.wr (o:=2) (by simp),?_⟩;have p3':bI (aQ (aQ (aQ (H2.push (.cells #[.pointer none,ac 0,.slice none 0 0] 138)) ⟨H2.size,0,none⟩ (QW b)) ((⟨H2.size,0,none⟩:Addr).add 1) (ac r)) ((⟨H2.size,0,none⟩:Addr).add 2) (.slice a l c)) H2.size (cc b r a l c):=p3;have f23:Fr [] H2 (aQ (aQ (aQ (H2.push (.cells #[.pointer none,ac 0,.slice none 0 0] 138)) ⟨H2.size,0,none⟩ (QW b)) ((⟨H2.size,0,none⟩:Addr).add 1) (ac r)) ((⟨H2.size,0,none⟩:Addr).add 2) (.slice a l c)):=by
  refine ⟨by rw [ck,ck,ck];simp,fun y hy _=>?_⟩;rw [cP (by show y≠H2.size;omega),cP (by show y≠H2.size;omega),cP (by show y≠H2.size;omega)];exact (Fr.push [] H2 _).2 y hy (by simp)
 have s23:(aQ (aQ (aQ (H2.push (.cells #[.pointer none,ac 0,.slice none 0 0] 138)) ⟨H2.size,0,none⟩ (QW b)) ((⟨H2.size,0,none⟩:Addr).add 1) (ac r)) ((⟨H2.size,0,none⟩:Addr).add 2) (.slice a l c)).size=H2.size+1:=by rw [ck,ck,ck];simp
 generalize aQ (aQ (aQ (H2.push (.cells #[.pointer none,ac 0,.slice none 0 0] 138)) ⟨H2.size,0,none⟩ (QW b)) ((⟨H2.size,0,none⟩:Addr).add 1) (ac r)) ((⟨H2.size,0,none⟩:Addr).add 2) (.slice a l c)=H3 at p3' f23 s23 ⊢;clear p0 p1 p2 p3 q0;have q3:=q2.fr f23 (by simp);have f03:=f02.trans f23;have fP:=Fr.push [] H3 (.cells #[ac r] 26);have ho:bZ 1 (H3.push (.cells #[ac r] 26)) (some ⟨H3.size,0,none⟩) 1 1 (az [r]) [H3.size]:=⟨by simp [az],a0U _,.inr ⟨_,_,rfl,rfl,bI.new _ _ _,by simp,by simp [az]⟩⟩;refine dz Ty rfl (by kernel_rfl) ho (Rd.nilF hr (f03.trans fP)) (fO (l:=ws)) (by omega) (by decide) (by decide) fun a4 c4 F4 H4 o4 u4 _=>⟨_,_,_,rfl,?_⟩;have f34:Fr [] H3 H4:=⟨a0O fP.1 u4.1.1,fun y hy _=>by rw [u4.1.2 y (a0X hy fP.1) (by simp;omega),fP.2 y hy (by simp)]⟩;have f04:=f03.trans f34;have p4:=p3'.fr f34 (by simp);have q4:=q3.fr f34 (by simp);have e4:az [r]++az ws=az (r :: ws):=rfl;rw [e4] at o4;have fr14:Fr [] H1 H4:=(f12.trans f23).trans f34;have hq4:=hq;refine ⟨fun w H'=>∃ i:Nat,w=[ac i]∧i<=1+l∧Fr [] H4 H'∧∀ j,j<i->cK s.h ((r :: ws).getD j 0)≠0,fun w _=>match w with
  | [.int _ i]=>((1+l:Nat)-i:Int).toNat
  | _=>0,⟨0,rfl,a07 _,Fr.refl _ _,fun j hj=>absurd hj (Nat.not_lt_zero j)⟩,?_⟩
 rintro w H5 ⟨i,rfl,hi,f5,O5⟩ _;have p5:=p4.fr f5 (by simp);have q5:=q4.fr f5 (by simp);have f05:=f04.trans f5;refine ⟨_,rfl,fZ (fun an=>?_) fun JR=>?_⟩
 ·obtain ⟨q,Jf,AT,OE⟩:=(Rd.nilF o4.rd f5).int (i:=(i:Int)) (by omega) (by omega);simp only [a0j] at AT;have e1:IntKind.wrap .i64 ((i:Int)+1)=((i+1:Nat):Int):=by rw [ao (by omega) (by omega)];omega
  refine ⟨⟨by omega,an⟩,q,Jf,_,by rw [a0j,a0y];exact AT,_,p5.cell 0,_,p5.cell 1,_,_,_,p5.cell 2,pm (hK.nil f05) hv fun H6 f6=>⟨_,rfl,?_⟩⟩;rw [bq,ae];refine aD (fun h0=>h1 (fun ⟨n',p,_,_,_,g4⟩=>by
   have ui:i<(r :: ws).length:=by simp only [a1b];omega
   have hmem:(r :: ws).getD i 0∈r :: ws:=by
    rw [a1f,a0Q ui];exact a04 ui
   exact g4 _ hmem h0) _ (f05.trans f6)) fun h0=>?_
  rw [e1];refine ⟨⟨i+1,rfl,by omega,f5.trans f6,fun j hj=>?_⟩,by simp;omega⟩;by_cases JW:j=i
  ·rw [JW];exact h0
  ·exact O5 j (by omega)
 ·have D2:∀ w∈r :: ws,cK s.h w≠0:=fun w hw=>by
   obtain ⟨j,hj,rfl⟩:=a2X.1 hw
   have:=O5 j (by simp only [a1b] at hj;omega);rw [a1f,a0Q hj] at this;exact this
  refine ⟨_,p5.cell 0,_,p5.cell 1,_,_,_,p5.cell 2,yT (hK.nil f05) hv fun H6 f6=>⟨_,rfl,?_⟩⟩;cases It:iR v k (cK s.h r) with
  | false=>rw [a0C,a0P];exact Xp ⟨n,q,he,hp,by omega,D2⟩ (fun g=>by rw [It] at g;cases g.1) _ (f05.trans f6)
  | true =>
  rw [a0p,a0f];have p6:=p5.fr f6 (by simp);have f06:=f05.trans f6;refine ⟨_,p6.cell 0,_,p6.cell 1,_,_,_,p6.cell 2,CP (hK.nil f06) fun H7 f7=>⟨_,rfl,?_⟩⟩;cases Jg:gd s.h k r with
  | false=>rw [a0C,a0P];exact Xp ⟨n,q,he,hp,by omega,D2⟩ (fun g=>by rw [Jg] at g;cases g.2) _ (f06.trans f7)
  | true =>
  rw [a0p,a0f];have p7:=p6.fr f7 (by simp);have q7:=(q5.fr f6 (by simp)).fr f7 (by simp);have f07:=f06.trans f7;have fr17:Fr [] H1 H7:=((fr14.trans f5).trans f6).trans f7;exact .inl ⟨f,g,hh,q7.cell 1,_,p7.cell 0,_,p7.cell 1,_,_,_,p7.cell 2,h n q he hp (by omega) D2 It Jg H7 H.size rr f g hh f07 (hq.fr fr17 (by simp))⟩
end
section
attribute [local irreducible] bL cy cH iF fD iG gO gt iJ pu iy dp dA
section
variable {H:au}{b:Nat}{F:aS}{s:SP}{t:TB}{v:KV}{G:Int->Prop}{Q:QT}{r x:Int}{a:Option Addr}{q:Addr}{l c:Nat}{k:Int}{y:ByteArray}{ar:List Int}{n:Int}{p:PF}{n0 rr f:Nat}{g hh:Array Value}{sel:ByteArray}
theorem di {f0:Nat} (hq:rJ H n0 rr (.fn f0) (.func (.func f) g hh)) (h:ag PP f0 #[cv b r a l c] Q H):ag PP f ((g++#[cv b r a l c])++hh) Q H:=by
 have hq:(Value.func (.func f) g hh)=.func (.func f0) #[] #[]:=hq;cases hq;exact h
theorem Bn {f0 g0:Nat} (hq:rJ H n0 rr (.clo f0 g0) (.func (.func f) g hh)) (h:∀ m,bI H m #[.func (.func g0) #[] #[]]->ag PP f0 #[cv b r a l c,QW m] Q H):ag PP f ((g++#[cv b r a l c])++hh) Q H:=by
 obtain ⟨m,e,hB,_⟩:=hq;cases e;exact h m hB
theorem yk {f0:Nat}{i:Int} (hq:rJ H n0 rr (.slot f0 i) (.func (.func f) g hh)) (h:∀ m,bI H m #[ac i]->ag PP f0 #[cv b r a l c,QW m] Q H):ag PP f ((g++#[cv b r a l c])++hh) Q H:=by
 obtain ⟨m,e,hB,_⟩:=hq;cases e;exact h m hB
theorem dO (hr:Rd 1 H a l (az ar)) (hn:(ar.length:Int)=1):∃ q y,a=some q∧ar=[y]:=by
 have hlen:l=ar.length:=by have:=hr.1;simpa [az] using this.symm
 cases a with
 | none=>have:=hr.2.1 rfl;omega
 | some q =>
  match ar,hn with
  | [y],_=>exact ⟨q,y,rfl,rfl⟩
theorem ua (hr:Rd 1 H a l (az ar)) (hn:(ar.length:Int)=2):∃ q y z,a=some q∧ar=[y,z]:=by
 have hlen:l=ar.length:=by have:=hr.1;simpa [az] using this.symm
 cases a with
 | none=>have:=hr.2.1 rfl;omega
 | some q =>
  match ar,hn with
  | [y,z],_=>exact ⟨q,y,z,rfl,rfl⟩
  | [],h=>simp at h
  | [_],h=>simp at h
  | _ :: _ :: _ :: _,h=>simp at h;omega
end
theorem uh {s:SP}{t:TB}{v:KV} (hv:KAllW s t v){w:Int} (h:cK s.h w≠0):1<=cK s.h w∧cK s.h w<=65536:=by
 have hk:aU w=0∨aU w=1∨aU w=2∨aU w=3:=by have:=bE w;omega
 obtain ⟨a,b,c⟩:=nN (r:=s.h) (w:=w);rcases hk with hk | hk | hk | hk
 ·exact absurd (c hk) h
 ·rw [a hk];decide
 ·rw [b hk];decide
 ·cases ho:ob s.h (w / 4) with
  | none =>
   exfalso;apply h;have e:mQ s.h w=(0,20):=by
    unfold mQ;rw [a0a (by omega),a0a (by omega),a0b hk];unfold RH.clsAt;rw [lR.1 ho];rfl
   unfold cK;rw [e];rfl
  | some x =>
   obtain ⟨c',f',l'⟩:=x;have hc:aU c'=3:=by
    obtain ⟨o,xB,rfl,_⟩:=dg.1 ho;exact hv.ks.gc o (aR xB).1
   rw [Lz hk ho hc]
   have:=ef hc;omega
theorem nF (w:Int):kx (cG w):=by
 unfold cG;split
 ·rename_i h;exact (gu h).2.1
 ·exact ⟨by decide,by decide⟩
def Gm (v:KV) (k:Int):Prop:=(∀ p∈v.roles,p.1≠k)∧k≠2∧k≠3
def WK (v:KV) (Gw:Int->Prop) (w:Int):Prop:=aU w=3->w / 4=1∨w / 4=2∨w / 4=3∨w / 4=18∨(∃ c∈v.cls,c.oop=w / 4)∨Gw (w / 4)
def NI (c:Int):Prop:=c≠32∧c≠36
def gW (P:Int->Prop) (r:RH):Prop:=∀ o∈r.objs,P o.cls
theorem wL {P:Int->Prop}{r:RH} (h:gW P r) (k i w:Int):gW P (r.put k i w).2:=by
 unfold RH.put;split
 ·exact h
 split
 ·exact h
 split
 ·exact h
 ·intro o ho;obtain ⟨o',xB,rfl⟩:=a1n.1 ho;split
  ·exact h o' xB
  ·exact h o' xB
theorem vl {P:Int->Prop}{r:RH} (h:gW P r){c:Int} (hc:P c) (n f:Int):gW P (r.alloc c n f).2:=by
 unfold RH.alloc;split
 ·exact h
 split
 ·exact h
 split
 ·exact h
 split
 ·exact h
 ·intro o ho;rcases a0T.1 ho with ho | ho
  ·exact h o ho
  ·rw [a0A.1 ho];exact hc
theorem i8 {o:RO}:∀ {l:List RO}{a:Int},o∈cF a l->∃ o'∈l,o'.cls=o.cls
 | [],_,h=>by cases h
 | x :: l,a,h=>by
  unfold cF at h;rcases a0E.1 h with rfl | h
  ·exact ⟨x,by simp,rfl⟩
  ·obtain ⟨o',h1,h2⟩:=i8 h;exact ⟨o',by simp [h1],h2⟩
theorem Fg {P:Int->Prop}{r:RH} (h:gW P r) (l:List Int):gW P (r.keep l).2:=by
 unfold RH.keep;split
 ·exact h
 ·intro o ho;obtain ⟨o',h1,h2⟩:=i8 ho;rw [←h2];exact h o' (a2l.1 h1).1
theorem oD {P:Int->Prop}{s:SP} (h:gW P s.h){c:Int} (hc:P c) (n f:Int):gW P (s.alloc c n f).2.h:=by
 unfold SP.alloc;split
 ·exact vl h hc n f
 ·exact vl (Fg h _) hc n f
theorem vB {P:Int->Prop}{r:RH} (h:gW P r) (k:Int):gW P (r.marks k).2:=by
 unfold RH.marks;split
 ·exact h
 ·exact h
structure UW (s:SP) (v:KV) (Gw:Int->Prop):Prop where
 base:∀ p∈fW v,∃ f l,ob s.h p.1=some (p.2,f,l)
 gm:∀ k,Gw k->Gm v k
 ni:gW NI s.h
 own:∀ k,Gw k->∀ c f l,ob s.h k=some (c,f,l)->(f=1∧c=40)∨(f=0∧pC v c∧∀ w∈l,WK v Gw w)
theorem UW.view {s:SP}{t:TB}{v:KV}{Gw:Int->Prop} (hU:UW s v Gw) (hv:KAllW s t v){w:Int} (hw:WK v Gw w) (h0:cK s.h w≠0):(aU w=1∧cK s.h w=8)∨(aU w=2∧cK s.h w=9) ∨
  (aU w=3∧∃ c f l,ob s.h (w / 4)=some (c,f,l)∧aU c=3∧cK s.h w=c / 4∧((c=20∨c=24∨c=28)∨(w=72∧c=44∧l=[])∨(c=48∧f=0∧∃ i,∃ hi:i<v.cls.length,w / 4=(v.cls[i]).oop∧l=(v.cls[i]).slots i)∨(Gw (w / 4)∧((f=1∧c=40)∨(f=0∧pC v c∧∀ z∈l,WK v Gw z))))):=by
 obtain ⟨a,b,c0⟩:=nN (r:=s.h) (w:=w);have hk:aU w=0∨aU w=1∨aU w=2∨aU w=3:=by have:=bE w;omega
 rcases hk with hk | hk | hk | h3
 ·exact absurd (c0 hk) h0
 ·exact .inl ⟨hk,a hk⟩
 ·exact .inr (.inl ⟨hk,b hk⟩)
 refine .inr (.inr ⟨h3,?_⟩);have J1:∀ {c f:Int}{l:List Int},ob s.h (w / 4)=some (c,f,l)->aU c=3∧cK s.h w=c / 4:=fun {c f l} hx=>by
  have hc:aU c=3:=by
   obtain ⟨o,ho,rfl,_⟩:=dg.1 hx;exact hv.ks.gc o (aR ho).1
  exact ⟨hc,Lz h3 hx hc⟩
 have fin:∀ {c f:Int}{l:List Int},ob s.h (w / 4)=some (c,f,l)->((c=20∨c=24∨c=28)∨(w=72∧c=44∧l=[])∨(c=48∧f=0∧∃ i,∃ hi:i<v.cls.length,w / 4=(v.cls[i]).oop∧l=(v.cls[i]).slots i)∨(Gw (w / 4)∧((f=1∧c=40)∨(f=0∧pC v c∧∀ z∈l,WK v Gw z))))->∃ c f l,ob s.h (w / 4)=some (c,f,l)∧aU c=3∧cK s.h w=c / 4∧((c=20∨c=24∨c=28)∨(w=72∧c=44∧l=[])∨(c=48∧f=0∧∃ i,∃ hi:i<v.cls.length,w / 4=(v.cls[i]).oop∧l=(v.cls[i]).slots i)∨(Gw (w / 4)∧((f=1∧c=40)∨(f=0∧pC v c∧∀ z∈l,WK v Gw z)))):=fun {c f l} hx hc=>⟨c,f,l,hx,(J1 hx).1,(J1 hx).2,hc⟩;obtain ⟨e,_⟩:=ef h3;rcases hw h3 with h | h | h | h | ⟨c,hc,h⟩ | h
 ·obtain ⟨f,l,hx⟩:=hU.base (1,20) (by simp [fW]);exact fin (by rw [h];exact hx) (.inl (.inl rfl))
 ·obtain ⟨f,l,hx⟩:=hU.base (2,24) (by simp [fW]);exact fin (by rw [h];exact hx) (.inl (.inr (.inl rfl)))
 ·obtain ⟨f,l,hx⟩:=hU.base (3,28) (by simp [fW]);exact fin (by rw [h];exact hx) (.inl (.inr (.inr rfl)))
 ·obtain ⟨f,l,hx⟩:=hU.base (18,44) (by simp [fW]);refine fin (by rw [h];exact hx) (.inr (.inl ⟨by omega,rfl,?_⟩));obtain ⟨o,h1,_,h2⟩:=hv.ks.view.empty;obtain ⟨o',g1,_,_,g2⟩:=dg.1 hx;rw [h1] at g1;cases g1;rw [←g2,h2]
 ·obtain ⟨i,hi,rfl⟩:=a2X.1 hc;obtain ⟨f,l,hx⟩:=hU.base ((v.cls[i]).oop,48) (by
   unfold fW;simp only [a0E,a1n];exact .inr (.inr (.inr (.inr ⟨v.cls[i],hc,rfl⟩))))
  refine fin (by rw [←h];exact hx) (.inr (.inr (.inl ?_)));have Xq:=hv.ks.view ((v.cls[i]).oop,(v.cls[i]).slots i) (by
   unfold KV.roles;simp only [a0E];exact .inr (.inr (.inr (.inr (.inr (kz (i:=0) hi (by simp [crole])))))))
  obtain ⟨o,h1,h2,SE⟩:=Xq;obtain ⟨o',g1,_,g2,g3⟩:=dg.1 hx;rw [h1] at g1;cases g1;exact ⟨rfl,by rw [←g2];exact h2,i,hi,h.symm,by rw [←g3];exact SE⟩
 ·cases hx:ob s.h (w / 4) with
  | none =>
   exfalso;apply h0;have e:mQ s.h w=(0,20):=by
    unfold mQ;rw [a0a (by omega),a0a (by omega),a0b h3];unfold RH.clsAt;rw [lR.1 hx];rfl
   unfold cK;rw [e];rfl
  | some y =>
   obtain ⟨c,f,l⟩:=y
   have:=fin hx (.inr (.inr (.inr ⟨h,hU.own _ h c f l hx⟩)));rw [hx] at this;exact this
theorem xW {s:SP}{t:TB}{v:KV}{Gw:Int->Prop} (hU:UW s v Gw) (hv:KAllW s t v) (hp:PairV v){w:Int} (hw:WK v Gw w) (qz:cK s.h w=10):oh s w:=by
 obtain ⟨p4,p5,p6,p7,p8,p9,p10,p11,p12,_⟩:=lI hp;rcases hU.view hv hw (by omega) with ⟨_,e⟩ | ⟨_,e⟩ | ⟨SE,c',f',l',JH,JO,e,hc⟩
 ·omega
 ·omega
 ·rcases hc with (rfl | rfl | rfl) | ⟨_,rfl,_⟩ | ⟨rfl,_⟩ | ⟨_,⟨rfl,rfl⟩ | ⟨_,hO,_⟩⟩
  ·omega
  ·omega
  ·omega
  ·omega
  ·omega
  ·obtain ⟨z,_,hz,SK⟩:=KB hv SE JH;exact ⟨w / 4,z,(ef SE).1,hz,SK⟩
  ·rcases pF hp hO JO with e' | e' | ⟨i,e',hi⟩
   ·omega
   ·omega
   ·rw [←e,qz,p10] at e';cases e';omega
theorem UW.inst {s:SP}{t:TB}{v:KV}{Gw:Int->Prop} (hU:UW s v Gw) (hv:KAllW s t v) (hp:PairV v){w:Int} (hw:WK v Gw w) (h0:cK s.h w≠0) (hi:fX v (cK s.h w)=true):aU w=3∧∃ c l,ob s.h (w / 4)=some (c,0,l)∧aU c=3∧cK s.h w=c / 4∧Gw (w / 4)∧pC v c∧∀ z∈l,WK v Gw z:=by
 obtain ⟨p4,p5,p6,p7,p8,p9,p10,p11,p12,_⟩:=lI hp;unfold fX at hi;rcases hU.view hv hw h0 with ⟨_,e⟩ | ⟨_,e⟩ | ⟨h3,c,f,l,hx,JO,e,hc⟩
 ·rw [e,p8] at hi;exact absurd hi (by decide)
 ·rw [e,p9] at hi;exact absurd hi (by decide)
 ·rcases hc with (rfl | rfl | rfl) | ⟨_,rfl,_⟩ | ⟨rfl,_⟩ | ⟨hG,⟨_,rfl⟩ | ⟨rfl,ho,hl⟩⟩
  ·rw [e,show (20:Int) / 4=5 from rfl,p5] at hi;exact absurd hi (by decide)
  ·rw [e,show (24:Int) / 4=6 from rfl,p6] at hi;exact absurd hi (by decide)
  ·rw [e,show (28:Int) / 4=7 from rfl,p7] at hi;exact absurd hi (by decide)
  ·rw [e,show (44:Int) / 4=11 from rfl,p11] at hi;exact absurd hi (by decide)
  ·rw [e,show (48:Int) / 4=12 from rfl,p12] at hi;exact absurd hi (by decide)
  ·rw [e,show (40:Int) / 4=10 from rfl,p10] at hi;exact absurd hi (by decide)
  ·exact ⟨h3,c,l,hx,JO,e,hG,ho,hl⟩
theorem pZ (s:SP){t:TB}{v:KV} (hv:KAllW s t v) (w:Int):∃ n:Nat,(dl s.h w).1=(n:Int)∧n<=8192:=by
 unfold dl;split
 ·unfold RH.size;split
  ·exact ⟨0,rfl,by decide⟩
  ·rename_i o ho;exact ⟨o.slots.length,rfl,(hv.ks.wf.h.objs.good o (aR ho).1).many⟩
 ·exact ⟨0,rfl,by decide⟩
section
variable {H:au}{b:Nat}{F:aS}{s:SP}{t:TB}{v:KV}{G:Int->Prop}{Q:QT}{r x:Int}{a:Option Addr}{q:Addr}{l c:Nat}{k:Int}{y:ByteArray}{ar:List Int}{n:Int}{p:PF}{n0 rr f:Nat}{g hh:Array Value}{sel:ByteArray}
theorem yL {m:Int} (hK:PK H b F s t){H':au} (f:Fr [] H H') (K:∀ H' F',PK H' b F' (dP s t r [x] m).2.1 (dP s t r [x] m).2.2->Up F H F' H'->Q (iY (dP s t r [x] m).1) H') :
  ((bG m x).2≠0->Q (.tuple #[ac 0,ac (bG m x).2]) H')∧((bG m x).2=0->Q (.tuple #[ac (eU s.h r (bG m x).1),ac 0]) H'):=by
 refine ⟨fun h0=>?_,fun h0=>?_⟩
 ·have e:dP s t r [x] m=((0,(bG m x).2),s,t):=by simp [dP,h0]
  rw [e] at K;exact K _ _ (hK.nil f) (Up.of_nil f)
 ·have e:dP s t r [x] m=((eU s.h r (bG m x).1,0),s,t):=by simp [dP,h0]
  rw [e] at K;exact K _ _ (hK.nil f) (Up.of_nil f)
theorem yC {m z:Int} (hK:PK H b F s t) (K:∀ H' F',PK H' b F' (dP s t r [x,z] m).2.1 (dP s t r [x,z] m).2.2->Up F H F' H'->Q (iY (dP s t r [x,z] m).1) H') :
  ((bG m x).2≠0->∀ H',Fr [] H H'->Q (.tuple #[ac 0,ac (bG m x).2]) H')∧((bG m x).2=0->∀ H',PK H' b F (s.putW r (bG m x).1 z).2 t->Fr F H H'->Q (.tuple #[ac z,ac (s.putW r (bG m x).1 z).1]) H'):=by
 refine ⟨fun h0 H' f=>?_,fun h0 H' hk f=>?_⟩
 ·have e:dP s t r [x,z] m=((0,(bG m x).2),s,t):=by simp [dP,h0]
  rw [e] at K;exact K _ _ (hK.nil f) (Up.of_nil f)
 ·have e:dP s t r [x,z] m=((z,(s.putW r (bG m x).1 z).1),(s.putW r (bG m x).1 z).2,t):=by simp [dP,h0]
  rw [e] at K;exact K _ _ hk ⟨f,fun y hy=>.inl hy⟩
abbrev KR (H:au) (b:Nat) (F:aS) (s:SP) (t:TB) (v:KV) (r:Int) (ar:List Int) (o:PO) (Q:QT):Prop:=∀ H' F',PK H' b F' (bS s t v r ar o).2.1 (bS s t v r ar o).2.2->Up F H F' H'->Q (iY (bS s t v r ar o).1) H'
theorem QM (hK:PK H b F s t) (hv:KAllW s t v) (D2:cK s.h r≠0) (hr:Rd 1 H a l (az ar)) (ho:∀ p,a=some p->p.block∉F)
  (K:KR H b F s t v r ar (jq p) Q) (hm:(sel,n,p)∈qA) (hn:(ar.length:Int)=n) (hq:rJ H n0 rr p (.func (.func f) g hh)) :
  ag PP f ((g++#[cv b r a l c])++hh) Q H:=by
 have Tb:=uh hv D2;simp only [qA,a0E,Prod.mk.injEq,a1l,a2h] at hm;rcases hm with ⟨rfl,rfl,rfl⟩ | ⟨rfl,rfl,rfl⟩ | ⟨rfl,rfl,rfl⟩ | ⟨rfl,rfl,rfl⟩ | ⟨rfl,rfl,rfl⟩ | ⟨rfl,rfl,rfl⟩ | ⟨rfl,rfl,rfl⟩ | ⟨rfl,rfl,rfl⟩ | ⟨rfl,rfl,rfl⟩ | ⟨rfl,rfl,rfl⟩ | ⟨rfl,rfl,rfl⟩ | ⟨rfl,rfl,rfl⟩
 ·obtain ⟨q,y,rfl,rfl⟩:=dO hr hn;exact di hq (ur hr fun _ f2=>K _ _ (hK.nil f2) (Up.of_nil f2))
 ·obtain ⟨q,y,rfl,rfl⟩:=dO hr hn;exact di hq (ur hr fun _ f2=>K _ _ (hK.nil f2) (Up.of_nil f2))
 ·obtain ⟨q,y,rfl,rfl⟩:=dO hr hn;exact di hq (vU hr fun _ f2=>K _ _ (hK.nil f2) (Up.of_nil f2))
 ·exact di hq (Bt hK hv Tb fun _ f2=>K _ _ (hK.nil f2) (Up.of_nil f2))
 ·exact di hq (Bh fun _ f2=>K _ _ (hK.nil f2) (Up.of_nil f2))
 ·exact di hq (zZ fun _ f2=>K _ _ (hK.nil f2) (Up.of_nil f2))
 ·exact di hq (Ep fun _ f2=>K _ _ (hK.nil f2) (Up.of_nil f2))
 ·obtain ⟨q,y,rfl,rfl⟩:=dO hr hn;exact di hq (zX (t:=t) hK hv hr fun _ f2=>K _ _ (hK.nil f2) (Up.of_nil f2))
 ·exact di hq (AL hK hv fun _ f2=>K _ _ (hK.nil f2) (Up.of_nil f2))
 ·obtain ⟨q,y,rfl,rfl⟩:=dO hr hn;exact di hq (zj hK hv hr (ho q rfl) (fun h0 _ f2=>(yL hK f2 K).1 h0) (fun h0 _ _ f2=>(yL hK f2 K).2 h0) fun _ y' ws' hw=>by cases hw)
 ·obtain ⟨q,y,z,rfl,rfl⟩:=ua hr hn;refine di hq (zj hK hv hr (ho q rfl) (fun h0 _ f2=>(yC hK K).1 h0 _ f2) (fun _ hw=>by cases hw) fun h0 y' ws' hw H' w8 f2=>?_);cases hw;exact (yC hK K).2 h0 _ w8 f2
 ·obtain ⟨m,CO,Rx⟩:=pZ s hv r;refine di hq (CK hK hv Tb CO (by omega) (fun hc H' f2=>?_) fun hc H' w8 f2=>?_)
  ·have e:bS s t v r ar .copy=((r,0),s,t):=by
    simp only [bS,CO,a0j];rw [a0a hc]
   have K':KR H b F s t v r ar .copy Q:=K;unfold KR at K';rw [e] at K';exact K' _ _ (hK.nil f2) (Up.of_nil f2)
  ·have e:bS s t v r ar .copy=C3 s t (cK s.h r) (dl s.h r).2 (dm s.h r m):=by
    simp only [bS,CO,a0j];rw [a0b hc]
   have K':KR H b F s t v r ar .copy Q:=K;unfold KR at K';rw [e] at K';exact K' _ _ w8 ⟨f2,fun y hy=>.inl hy⟩
theorem QH (hK:PK H b F s t) (hr:Rd 1 H a l (az ar))
  (K:KR H b F s t v r ar (jq p) Q) (hm:(sel,n,p)∈oX) (hn:(ar.length:Int)=n) (hq:rJ H n0 rr p (.func (.func f) g hh)) :
  ag PP f ((g++#[cv b r a l c])++hh) Q H:=by
 simp only [oX,a0E,Prod.mk.injEq,a1l,a2h] at hm;rcases hm with ⟨rfl,rfl,rfl⟩ | ⟨rfl,rfl,rfl⟩ | ⟨rfl,rfl,rfl⟩ | ⟨rfl,rfl,rfl⟩
 ·exact di hq (LR fun _ f2=>K _ _ (hK.nil f2) (Up.of_nil f2))
 ·obtain ⟨q,y,rfl,rfl⟩:=dO hr hn;exact di hq (BQ (s:=s) (t:=t) (v:=v) hr fun _ f2=>K _ _ (hK.nil f2) (Up.of_nil f2))
 ·obtain ⟨q,y,rfl,rfl⟩:=dO hr hn;exact di hq (BQ (s:=s) (t:=t) (v:=v) hr fun _ f2=>K _ _ (hK.nil f2) (Up.of_nil f2))
 ·obtain ⟨q,y,rfl,rfl⟩:=dO hr hn;exact di hq (PA (s:=s) (t:=t) (v:=v) hr fun _ f2=>K _ _ (hK.nil f2) (Up.of_nil f2))
theorem QQ (hK:PK H b F s t) (ht:iC H) (hr:Rd 1 H a l (az ar)) (hk:aU r=1)
  (K:KR H b F s t v r ar (jq p) Q) (hm:(sel,n,p)∈qH) (hn:(ar.length:Int)=n) (hq:rJ H n0 rr p (.func (.func f) g hh)) :
  ag PP f ((g++#[cv b r a l c])++hh) Q H:=by
 obtain ⟨er,Jk,en⟩:=gu hk;have num:∀ {g0:Nat}{f0:Int->Int->Int × Int},td g0 f0->n=1->KR H b F s t v r ar (.num f0) Q->rJ H n0 rr (.clo 295 g0) (.func (.func f) g hh)->ag PP f ((g++#[cv b r a l c])++hh) Q H:=fun {g0 f0} hg h1 K hq=>by
  obtain ⟨q,y,rfl,rfl⟩:=dO hr (hn.trans h1);simp only [KR,bS,a1K] at K;refine Bn hq fun m hB=>xm hK hr hB (fun hb _ f2=>?_) fun hky H2 f2=>?_
  ·rw [a0b hb] at K;exact K _ _ (hK.nil f2) (Up.of_nil f2)
  obtain ⟨_,a1k,eny⟩:=gu hky;rw [a0a (by simpa using hky),eny] at K;refine hg _ _ (nF _) a1k ⟨_,_,rfl,?_⟩;rw [bn,ae];refine aD (fun h0=>?_) fun h0=>od ⟨_,_,rfl,?_⟩
  ·rw [a0b h0] at K;exact K _ _ (hK.nil f2) (Up.of_nil f2)
  ·rw [a0a h0] at K;exact K _ _ (hK.nil f2) (Up.of_nil f2)
 have cmp:∀ {g0:Nat}{f0:Int->Int->Bool},(∀ (n m:Int){H:au}{Q:QT},Q (.bool (f0 n m)) H->ag PP g0 #[ac n,ac m] Q H)->n=1->KR H b F s t v r ar (.cmp f0) Q->rJ H n0 rr (.clo 299 g0) (.func (.func f) g hh)->ag PP f ((g++#[cv b r a l c])++hh) Q H:=fun {g0 f0} hg h1 K hq=>by
  obtain ⟨q,y,rfl,rfl⟩:=dO hr (hn.trans h1);simp only [KR,bS,a1K] at K;refine Bn hq fun m hB=>vG hK hr hB hg (fun hb _ f2=>?_) fun hb _ f2=>?_
  ·rw [a0b hb] at K;exact K _ _ (hK.nil f2) (Up.of_nil f2)
  ·rw [a0a (by simpa using hb),(gu hb).2.2] at K;exact K _ _ (hK.nil f2) (Up.of_nil f2)
 simp only [qH,a0E,Prod.mk.injEq,a1l,a2h] at hm;rcases hm with ⟨rfl,h1,rfl⟩ | ⟨rfl,h1,rfl⟩ | ⟨rfl,h1,rfl⟩ | ⟨rfl,h1,rfl⟩ | ⟨rfl,h1,rfl⟩ | ⟨rfl,h1,rfl⟩ | ⟨rfl,h1,rfl⟩ | ⟨rfl,h1,rfl⟩ | ⟨rfl,h1,rfl⟩ | ⟨rfl,h1,rfl⟩ | ⟨rfl,h1,rfl⟩ | ⟨rfl,h1,rfl⟩ | ⟨rfl,h1,rfl⟩ | ⟨rfl,h1,rfl⟩ | ⟨rfl,h1,rfl⟩ | ⟨rfl,h1,rfl⟩ | ⟨rfl,h1,rfl⟩ | ⟨rfl,h1,rfl⟩ | ⟨rfl,h1,rfl⟩ | ⟨rfl,h1,rfl⟩ | ⟨rfl,h1,rfl⟩ | ⟨rfl,h1,rfl⟩
 ·exact num MZ h1 K hq
 ·exact num BZ h1 K hq
 ·exact num Np h1 K hq
 ·exact num L2 h1 K hq
 ·exact num Mz h1 K hq
 ·exact num M6 h1 K hq
 ·exact num Ql h1 K hq
 ·exact num LX h1 K hq
 ·exact num C0 h1 K hq
 ·exact cmp P4 h1 K hq
 ·exact cmp Qi h1 K hq
 ·exact cmp Qb h1 K hq
 ·exact cmp Qp h1 K hq
 ·exact num MH h1 K hq
 ·exact num Nh h1 K hq
 ·obtain ⟨q,y,rfl,rfl⟩:=dO hr (hn.trans h1);exact di hq (ur hr fun _ f2=>K _ _ (hK.nil f2) (Up.of_nil f2))
 ·obtain ⟨q,y,rfl,rfl⟩:=dO hr (hn.trans h1);exact di hq (vU hr fun _ f2=>K _ _ (hK.nil f2) (Up.of_nil f2))
 ·exact di hq (BE hK (nF _) fun _ f2=>K _ _ (hK.nil f2) (Up.of_nil f2))
 ·have I9:ar=[]:=a1o (by omega);subst I9;exact di hq (MU (s:=s) (t:=t) (v:=v) hK (nF _) fun _ f2=>K _ _ (hK.nil f2) (Up.of_nil f2))
 ·exact di hq (Ki hK fun _ f2=>K _ _ (hK.nil f2) (Up.of_nil f2))
 ·exact di hq (LP hK fun _ f2=>K _ _ (hK.nil f2) (Up.of_nil f2))
 ·refine di hq ?_;have K':KR H b F s t v r ar .print Q:=K;simp only [KR,bS,C3,en] at K';rw [er];exact C1 hK ht Jk fun H' w8 f2=>K' _ _ w8 ⟨f2,fun y hy=>.inl hy⟩
theorem QN (hK:PK H b F s t) (hv:KAllW s t v) (hr:Rd 1 H a l (az ar)) (hk:aU r=2)
  (K:KR H b F s t v r ar (jq p) Q) (hm:(sel,n,p)∈qW) (hn:(ar.length:Int)=n) (hq:rJ H n0 rr p (.func (.func f) g hh)) :
  ag PP f ((g++#[cv b r a l c])++hh) Q H:=by
 obtain ⟨m,er,m0,m1⟩:∃ m,r=4*m+2∧0<=m∧m<4096:=⟨r / 4,by have:=bE r;omega⟩;have zw:=sj hv m;have et:=jX (s:=s) (t:=t) ⟨m0,m1⟩;subst er;simp only [qW,a0E,Prod.mk.injEq,a1l,a2h] at hm;rcases hm with ⟨rfl,rfl,rfl⟩ | ⟨rfl,rfl,rfl⟩ | ⟨rfl,rfl,rfl⟩
 ·have K':KR H b F s t v (4*m+2) ar .len Q:=K;simp only [KR,bS,et] at K';exact di hq (FQ hK ⟨m0,m1⟩ fun _ f2=>K' _ _ (hK.nil f2) (Up.of_nil f2))
 ·have K':KR H b F s t v (4*m+2) ar .asStr Q:=K;simp only [KR,bS,C3,et] at K';exact di hq (Nf hK ⟨m0,m1⟩ (by omega) fun H' w8 f2=>K' _ _ w8 ⟨f2,fun y hy=>.inl hy⟩)
 ·obtain ⟨q,y,rfl,rfl⟩:=dO hr hn;exact di hq (x9 (v:=v) hK ⟨m0,m1⟩ hr fun _ f2=>K _ _ (hK.nil f2) (Up.of_nil f2))
theorem Qq (hK:PK H b F s t) (hv:KAllW s t v) (hr:Rd 1 H a l (az ar)) (ho:∀ p,a=some p->p.block∉F) (hs:oh s r) (SL:∀ w∈ar,cK s.h w=10->oh s w)
  (K:KR H b F s t v r ar (jq p) Q) (hm:(sel,n,p)∈mD) (hn:(ar.length:Int)=n) (hq:rJ H n0 rr p (.func (.func f) g hh)) :
  ag PP f ((g++#[cv b r a l c])++hh) Q H:=by
 obtain ⟨k,y,rfl,hs,hy⟩:=hs;obtain ⟨k1,k2⟩:=ju hv hs;have htx:t.texts.length<=4096:=by have h1:=hv.names.wf.len;have h2:=hv.names.wf.m1;omega
 simp only [mD,a0E,Prod.mk.injEq,a1l,a2h] at hm;rcases hm with ⟨rfl,rfl,rfl⟩ | ⟨rfl,rfl,rfl⟩ | ⟨rfl,rfl,rfl⟩ | ⟨rfl,rfl,rfl⟩ | ⟨rfl,rfl,rfl⟩ | ⟨rfl,rfl,rfl⟩ | ⟨rfl,rfl,rfl⟩ | ⟨rfl,rfl,rfl⟩
 ·exact di hq (yD hK fun _ f2=>K _ _ (hK.nil f2) (Up.of_nil f2))
 ·exact di hq (ve hK fun _ f2=>K _ _ (hK.nil f2) (Up.of_nil f2))
 ·obtain ⟨q,z,rfl,rfl⟩:=dO hr hn;exact di hq (zY hK hr fun _ f2=>K _ _ (hK.nil f2) (Up.of_nil f2))
 ·obtain ⟨q,z,w,rfl,rfl⟩:=ua hr hn;exact di hq (xM (v:=v) hK hr (ho q rfl) fun H' w8 f2=>by
   have e:(bS s t v (4*k) [z,w] .bytePut).2.2=t:=by
    simp only [bS];split
    ·rfl
    ·split <;> rfl
   have K':KR H b F s t v (4*k) [z,w] .bytePut Q:=K;unfold KR at K';rw [e] at K';exact K' _ _ w8 ⟨f2,fun y hy=>.inl hy⟩)
 ·obtain ⟨q,z,rfl,rfl⟩:=dO hr hn;exact di hq (zE (v:=v) hK hv hs k1 k2 hy (SL z (by simp)) hr fun H' w8 f2=>by
   have e:(bS s t v (4*k) [z] .join).2.2=t:=by
    simp only [bS];split
    ·rfl
    ·split <;> rfl
   have K':KR H b F s t v (4*k) [z] .join Q:=K;unfold KR at K';rw [e] at K';exact K' _ _ w8 ⟨f2,fun y hy=>.inl hy⟩)
 ·obtain ⟨q,z,rfl,rfl⟩:=dO hr hn;exact di hq (CT (v:=v) hK hv hs k1 k2 hy (SL z (by simp)) hr fun _ f2=>K _ _ (hK.nil f2) (Up.of_nil f2))
 ·obtain ⟨q,z,rfl,rfl⟩:=dO hr hn;exact di hq (Ef (v:=v) hK hv hs k1 k2 hy (SL z (by simp)) hr fun _ f2=>K _ _ (hK.nil f2) (Up.of_nil f2))
 ·have I9:ar=[]:=a1o (by omega);subst I9;exact di hq (Cm (v:=v) hK hs k1 k2 hy hv.names.wf htx fun H' F' w8 u=>K _ _ w8 u)
theorem Qm (hK:PK H b F s t) (hr:Rd 1 H a l (az ar)) (ho:∀ p,a=some p->p.block∉F)
  (K:KR H b F s t v r ar (jq p) Q) (hm:(sel,n,p)∈mH) (hn:(ar.length:Int)=n) (hq:rJ H n0 rr p (.func (.func f) g hh)) :
  ag PP f ((g++#[cv b r a l c])++hh) Q H:=by
 simp only [mH,a0E,Prod.mk.injEq,a1l,a2h] at hm;rcases hm with ⟨rfl,rfl,rfl⟩ | ⟨rfl,rfl,rfl⟩ | ⟨rfl,rfl,rfl⟩ | ⟨rfl,rfl,rfl⟩
 ·exact di hq (yD hK fun _ f2=>K _ _ (hK.nil f2) (Up.of_nil f2))
 ·exact di hq (ve hK fun _ f2=>K _ _ (hK.nil f2) (Up.of_nil f2))
 ·obtain ⟨q,y,rfl,rfl⟩:=dO hr hn;exact di hq (LN hK hr (ho q rfl) (fun h0 _ f2=>(yL hK f2 K).1 h0) (fun h0 _ _ f2=>(yL hK f2 K).2 h0) fun _ y' ws' hw=>by cases hw)
 ·obtain ⟨q,y,z,rfl,rfl⟩:=ua hr hn;refine di hq (LN hK hr (ho q rfl) (fun h0 _ f2=>(yC hK K).1 h0 _ f2) (fun _ hw=>by cases hw) fun h0 y' ws' hw H' w8 f2=>?_);cases hw;exact (yC hK K).2 h0 _ w8 f2
theorem Po (hK:PK H b F s t) (hv:KAllW s t v) (hr:Rd 1 H a l (az ar)) (h3:aU r=3)
  (K:KR H b F s t v r ar (jq p) Q) (hm:(sel,n,p)∈mG) (hn:(ar.length:Int)=n) (hq:rJ H n0 rr p (.func (.func f) g hh)) :
  ag PP f ((g++#[cv b r a l c])++hh) Q H:=by
 obtain ⟨er,o1,o2⟩:=ef h3;simp only [mG,a0E,Prod.mk.injEq,a1l,a2h] at hm;rcases hm with ⟨rfl,rfl,rfl⟩ | ⟨rfl,rfl,rfl⟩ | ⟨rfl,rfl,rfl⟩ | ⟨rfl,rfl,rfl⟩
 ·have K':KR H b F s t v r ar .fresh Q:=K;refine di hq (zG hK hv er ⟨o1,o2⟩ (fun hb _ f2=>?_) fun j hj hc H' w8 f2=>?_)
  ·have e:bS s t v r ar .fresh=((0,170),s,t):=by
    simp only [bS];rcases hb with hb | ⟨i,hb,cj,k8⟩
    ·rw [hb]
    ·rw [hb];simp only;rw [a0b ⟨cj,k8⟩]
   unfold KR at K';rw [e] at K';exact K' _ _ (hK.nil f2) (Up.of_nil f2)
  ·have e:bS s t v r ar .fresh=Cc s t r ((ch v j).length:Int) 0:=by
    simp only [bS];rw [hj];simp only;rw [a0a (fun h=>h.2 (hc h.1))]
   unfold KR at K';rw [e] at K';exact K' _ _ w8 ⟨f2,fun y hy=>.inl hy⟩
 ·obtain ⟨q,y,rfl,rfl⟩:=dO hr hn;have K':KR H b F s t v r [y] .sized Q:=K;simp only [KR,bS,a1K] at K';refine di hq (zB hK er ⟨o1,o2⟩ hr (fun hb _ f2=>?_) (fun I3 hz JC _ f2=>?_) fun hb fm hc H' w8 f2=>?_)
  ·rw [a0b hb] at K';exact K' _ _ (hK.nil f2) (Up.of_nil f2)
  ·rw [a0a (by rintro (h | h | h | h) <;> omega),a0a (by omega),a0b hz] at K';exact K' _ _ (hK.nil f2) (Up.of_nil f2)
  ·rw [a0a hb] at K';rcases hc with ⟨qz,rfl⟩ | ⟨I3,rfl,hz⟩
   ·rw [a0b qz] at K';exact K' _ _ w8 ⟨f2,fun y hy=>.inl hy⟩
   ·rw [a0a (by omega),a0a hz] at K';exact K' _ _ w8 ⟨f2,fun y hy=>.inl hy⟩
 ·exact yk hq fun m hB=>wC hK hB fun _ f2=>K _ _ (hK.nil f2) (Up.of_nil f2)
 ·exact yk hq fun m hB=>wC hK hB fun _ f2=>K _ _ (hK.nil f2) (Up.of_nil f2)
end
section
variable {H:au}{b:Nat}{F:aS}{s:SP}{t:TB}{v:KV}{Gw:Int->Prop}{G:Int->Prop}{Q:QT}{r:Int}{a:Option Addr}{l c:Nat}{k:Int}{ar:List Int}{sel:ByteArray}
theorem xk (hU:UW s v Gw) (hv:KAllW s t v) (hp:PairV v) (hr:WK v Gw r) (h0:cK s.h r≠0) (It:iR v k (cK s.h r)=true) :
  (k=8->aU r=1)∧(k=9->aU r=2)∧(k=10->oh s r)∧(k=11->cK s.h r=11)∧(k=12->aU r=3)∧k≠14∧k≠17:=by
 obtain ⟨p4,p5,p6,p7,p8,p9,p10,p11,p12,p14,p17⟩:=lI hp;have own:∀ {cc:Int},pC v cc->aU cc=3->∀ {o i},cc / 4=o->eR v o=some i->i<14->i=0∨o=11:=fun {cc} hO h3 {o i} e hi h14=>by
  rcases pF hp hO h3 with e' | e' | ⟨j,e',hj⟩
  ·exact .inr (e ▸ e')
  ·left;rw [←e,e'] at hi;rw [p4] at hi;cases hi;rfl
  ·rw [e,hi] at e';cases e';omega
 have view:=hU.view hv hr h0;have cls:∀ {o i},cK s.h r=o->eR v o=some i->i<14->i≠0->(o=8∧aU r=1)∨(o=9∧aU r=2)∨(aU r=3∧(o=5∨o=6∨o=7∨o=10∨o=11∨o=12)):=fun {o i} eo hi h14 h0=>by
  rcases view with ⟨h1,e⟩ | ⟨h1,e⟩ | ⟨SE,c',f',l',JH,JO,e,hc⟩
  ·exact .inl ⟨by omega,h1⟩
  ·exact .inr (.inl ⟨by omega,h1⟩)
  ·refine .inr (.inr ⟨SE,?_⟩);rcases hc with (rfl | rfl | rfl) | ⟨_,rfl,_⟩ | ⟨rfl,_⟩ | ⟨_,⟨_,rfl⟩ | ⟨_,hO,_⟩⟩
   ·omega
   ·omega
   ·omega
   ·omega
   ·omega
   ·omega
   ·have:=own hO JO (o:=o) (by omega) hi h14;omega
 have no4:∀ {o i},eR v o=some i->i≠0->o≠4:=fun {o i} h h0 e=>by rw [e,p4] at h;cases h;exact h0 rfl
 have at_:∀ {i},eR v k=some i->i<14->i≠0->cK s.h r=k:=fun h1 h2 h3=>tj hp (no4 h1 h3) h1 h2 It;refine ⟨fun e=>?_,fun e=>?_,fun e=>?_,fun e=>?_,fun e=>?_,fun e=>?_,fun e=>?_⟩
 ·subst e;rcases cls (at_ p8 (by decide) (by decide)) p8 (by decide) (by decide) with h | h | h
  ·exact h.2
  ·omega
  ·omega
 ·subst e;rcases cls (at_ p9 (by decide) (by decide)) p9 (by decide) (by decide) with h | h | h
  ·omega
  ·exact h.2
  ·omega
 ·subst e;exact xW hU hv hp hr (at_ p10 (by decide) (by decide))
 ·subst e;exact at_ p11 (by decide) (by decide)
 ·subst e;rcases cls (at_ p12 (by decide) (by decide)) p12 (by decide) (by decide) with h | h | h
  ·omega
  ·omega
  ·exact h.1
 ·subst e;rcases cls (at_ p14 (by decide) (by decide)) p14 (by decide) (by decide) with h | h | h <;> omega
 ·subst e;rcases cls (at_ p17 (by decide) (by decide)) p17 (by decide) (by decide) with h | h | h <;> omega
theorem tL {n:Int}{p:PF} (he:gv (fi k) sel=some (n,p)) (TX:p≠.nil) (hn:(ar.length:Int)=n) (D2:∀ w∈r :: ar,cK s.h w≠0) (It:iR v k (cK s.h r)=true) (Jg:gd s.h k r=true):rK s t v k sel r ar=bS s t v r ar (jq p):=by
 unfold rK;rw [a0b ⟨n,p,he,TX,hn,D2⟩,a0b ⟨It,Jg⟩,he]
theorem PQ (hK:PK H b F s t) (hv:KAllW s t v) (hU:UW s v Gw) (hp:PairV v) (ht:iC H) (hr:Rd 1 H a l (az ar)) (ho:∀ p,a=some p->p.block∉F) (Do:∀ w∈r :: ar,cK s.h w≠0->WK v Gw w)
  (K:∀ H' F',PK H' b F' (rK s t v k sel r ar).2.1 (rK s t v k sel r ar).2.2->Up F H F' H'->Q (iY (rK s t v k sel r ar).1) H'):ag PP 30 #[QW b,ac k,.string sel,ac r,.slice a l c] Q H:=by
 refine PG hK hv hr (fun hn H' f=>?_) (fun h1 h2 H' f=>?_) fun n p he TX hn D2 It Jg H1 n0 rr f g hh f1 hq=>?_
 ·have e:rK s t v k sel r ar=((0,1),s,t):=by unfold rK;rw [a0a hn]
  rw [e] at K;exact K _ _ (hK.nil f) (Up.of_nil f)
 ·have e:rK s t v k sel r ar=((0,170),s,t):=by unfold rK;rw [a0b h1,a0a h2]
  rw [e] at K;exact K _ _ (hK.nil f) (Up.of_nil f)
 rw [tL he TX hn D2 It Jg] at K;have hmem:=nE he;have s5:=hK.nil f1;have OP:=Rd.nilF hr f1;have Uz:=ht.fr f1 (by simp);have UA:=Do r (by simp) (D2 r (by simp));obtain ⟨q8,q9,q10,q11,q12,q14,q17⟩:=xk hU hv hp UA (D2 r (by simp)) It;have K1:KR H1 b F s t v r ar (jq p) (fun (v42:Value) (H9:au)=>∃ n43:Int,∃ n44:Int,v42=.tuple #[ac n43,ac n44]∧Q (.tuple #[ac n43,ac n44]) H9):=fun H' F' hk u=>⟨_,_,rfl,K H' F' hk (eZ f1 u)⟩;unfold fi at hmem;split at hmem
 ·exact QM s5 hv (D2 r (by simp)) OP ho K1 hmem hn hq
 split at hmem
 ·exact QH s5 OP K1 hmem hn hq
 split at hmem
 ·rename_i e;exact QQ s5 Uz OP (q8 e) K1 hmem hn hq
 split at hmem
 ·rename_i e;exact QN s5 hv OP (q9 e) K1 hmem hn hq
 split at hmem
 ·rename_i e;exact Qq s5 hv OP ho (q10 e) (fun w hw qz=>xW hU hv hp (Do w (by simp [hw]) (by omega)) qz) K1 hmem hn hq
 split at hmem
 ·exact Qm s5 OP ho K1 hmem hn hq
 split at hmem
 ·rename_i e;exact Po s5 hv OP (q12 e) K1 hmem hn hq
 first
  | cases hmem
  | (rw [a0a q14,a0a q17] at hmem;cases hmem)
end
end
section
attribute [local irreducible] bL cy cH iF fD iG gO gt iJ pu iy dp dA iE
def mq (v:KV):Prop:=8∈v.rest∧12∈v.rest
section
variable {s:SP}{t:TB}{v:KV}{Gw:Int->Prop}{r x:Int}{ar:List Int}{n:Int}{sel:ByteArray}
theorem WK.small {w:Int} (h:aU w≠3):WK v Gw w:=fun h3=>absurd h3 h
theorem WK.nil:WK v Gw 4:=fun _=>.inl rfl
theorem WK.tw (z:Bool):WK v Gw (tw z):=by
 cases z
 ·exact fun _=>.inr (.inl rfl)
 ·exact fun _=>.inr (.inr (.inl rfl))
theorem WK.cls {o:Int}{i:Nat} (h:eR v o=some i):WK v Gw (4*o):=fun _=>by
 obtain ⟨hi,e⟩:=dS h;exact .inr (.inr (.inr (.inr (.inl ⟨_,a04 hi,by omega⟩))))
theorem WK.own {o:Int} (h:Gw o):WK v Gw (4*o):=fun _=>.inr (.inr (.inr (.inr (.inr (by rw [show 4*o / 4=o by omega];exact h)))))
theorem WK.mono {G':Int->Prop} (hm:∀ k,Gw k->G' k){w:Int} (h:WK v Gw w):WK v G' w:=fun h3=>by
 rcases h h3 with h | h | h | h | h | h
 ·exact .inl h
 ·exact .inr (.inl h)
 ·exact .inr (.inr (.inl h))
 ·exact .inr (.inr (.inr (.inl h)))
 ·exact .inr (.inr (.inr (.inr (.inl h))))
 ·exact .inr (.inr (.inr (.inr (.inr (hm _ h)))))
theorem UW.breach (hU:UW s v Gw) (hk:KS s v) (hR:mq v):∀ p∈fW v,Reaches s.h s.roots p.1:=by
 have r19:Reaches s.h s.roots 19:=hk.reach (19,v.rootW) (by simp [KV.roles]);have viaRoot:∀ w:Int,w∈v.rootW->aU w=3->ob s.h (w / 4)≠none->Reaches s.h s.roots (w / 4):=fun w hw TE hn=>by
  obtain ⟨x,Oq,At,Sg⟩:=hk.view.root;exact xc r19 (dg.2 ⟨x,Oq,rfl,At,Sg⟩) hw TE hn
 have hn:∀ p∈fW v,ob s.h p.1≠none:=fun p hp=>by
  obtain ⟨f,l,h⟩:=hU.base p hp;rw [h];simp
 intro p hp;have VP:=hn p hp;unfold fW at hp;simp only [a0E] at hp;rcases hp with rfl | rfl | rfl | rfl | hp
 ·exact hk.reach (1,[]) (by simp [KV.roles])
 ·exact viaRoot 8 (by unfold KV.rootW;simp [hR.1]) (by decide) VP
 ·exact viaRoot 12 (by unfold KV.rootW;simp [hR.2]) (by decide) VP
 ·exact hk.reach (18,[]) (by simp [KV.roles])
 ·obtain ⟨c,hc,rfl⟩:=a1n.1 hp;obtain ⟨i,hi,rfl⟩:=a2X.1 hc;exact hk.reach ((v.cls[i]).oop,(v.cls[i]).slots i) (by
   unfold KV.roles;simp only [a0E];exact .inr (.inr (.inr (.inr (.inr (kz (i:=0) hi (by simp [crole])))))))
theorem UW.young (hU:UW s v Gw) (hk:KS s v) (hR:mq v){o:Int} (ho:¬ Reaches s.h s.roots o):Gm v o:=by
 refine ⟨fun p hp e=>ho (e ▸ hk.reach p hp),fun e=>ho ?_,fun e=>ho ?_⟩
 ·rw [e];exact hU.breach hk hR (2,24) (by simp [fW])
 ·rw [e];exact hU.breach hk hR (3,28) (by simp [fW])
theorem NJ (hp:PairV v){c f:Int} (fb:(f=1∧c=40)∨(f=0∧pC v c)):NI c:=by
 obtain ⟨p4,p5,p6,p7,p8,p9,p10,p11,p12,_⟩:=lI hp;rcases fb with ⟨_,rfl⟩ | ⟨_,rfl | ⟨o,i,rfl,h1,h2⟩⟩
 ·exact ⟨by decide,by decide⟩
 ·exact ⟨by decide,by decide⟩
 ·refine ⟨fun e=>?_,fun e=>?_⟩
  ·have:o=8:=by omega
   rw [this,p8] at h1;cases h1;omega
  ·have:o=9:=by omega
   rw [this,p9] at h1;cases h1;omega
theorem UW.alloc (hU:UW s v Gw) (hv:KAllW s t v) (hp:PairV v) (hR:mq v){c:Int} (hc:aU c=3) (n:Int){f:Int} (fb:(f=1∧c=40)∨(f=0∧pC v c)) :
  KAllW (s.alloc c n f).2 t v∧(s.alloc c n f).2.stack=s.stack∧∃ G':Int->Prop,(∀ k,Gw k->G' k)∧UW (s.alloc c n f).2 v G'∧((s.alloc c n f).1.2=0->∃ o,(s.alloc c n f).1.1=4*o∧1<=o∧o<=65536∧G' o∧ob (s.alloc c n f).2.h o=some (c,f,List.replicate n.toNat (if f=1 then 0 else 4))):=by
 obtain ⟨A,hv1⟩:=yK hv hc n f;have base:∀ p∈fW v,∃ f' l,ob (s.alloc c n f).2.h p.1=some (p.2,f',l):=fun p hp=>by
  obtain ⟨f',l,h⟩:=hU.base p hp;exact ⟨f',l,A.keep _ (hU.breach hv.ks hR p hp) _ h⟩
 have hni:=oD hU.ni (NJ hp fb) n f;refine ⟨hv1,A.stk,?_⟩;by_cases h0:(s.alloc c n f).1.2=0
 ·obtain ⟨o,e,o1,o2,ho,Jv,Xr⟩:=A.good h0;refine ⟨fun k=>Gw k∨k=o,fun k h=>.inl h,⟨base,fun k h=>?_,hni,fun k hG c' f' l h=>?_⟩,fun _=>⟨o,e,o1,o2,.inr rfl,ho⟩⟩
  ·rcases h with h | rfl
   ·exact hU.gm k h
   ·exact hU.young hv.ks hR Jv
  ·by_cases Jy:k=o
   ·subst Jy;rw [ho] at h;simp only [Option.some.injEq,Prod.mk.injEq] at h;obtain ⟨rfl,rfl,rfl⟩:=h;rcases fb with ⟨a,b⟩ | ⟨a,b⟩
    ·exact .inl ⟨a,b⟩
    ·refine .inr ⟨a,b,fun w hw=>?_⟩;rw [a0a (by omega)] at hw;rw [(List.mem_replicate.1 hw).2];exact WK.nil
   ·exact (hU.own k (hG.resolve_right Jy) c' f' l (Xr k _ Jy h)).imp id fun ⟨a,b,g⟩=>⟨a,b,fun w hw=>(g w hw).mono fun k h=>.inl h⟩
 ·exact ⟨Gw,fun _ h=>h,⟨base,hU.gm,hni,fun k hG c' f' l h=>hU.own k hG c' f' l (A.bad h0 k _ h)⟩,fun h=>absurd h h0⟩
theorem UW.put (hU:UW s v Gw) (hv:KAllW s t v){k c f i w:Int}{l:List Int} (hG:Gw k) (hx:ob s.h k=some (c,f,l)) (k1:1<=k) (k2:k<=65536) (hi:0<=i∧i<l.length) (h1:f=1->0<=w∧w<=255) (h0:f=0->dL w∧WK v Gw w) :
  ∃ s2,s.putW (4*k) i w=(0,s2)∧UW s2 v Gw∧KAllW s2 t v∧s2.stack=s.stack∧ob s2.h k=some (c,f,l.set i.toNat w)∧∀ j,j≠k->ob s2.h j=ob s.h j:=by
 have VW:=hU.own k hG c f l hx;have hm:fv f w:=by
  unfold fv;rcases VW with ⟨a,_⟩ | ⟨a,_⟩
  ·rw [a0b a];exact h1 a
  ·rw [a0a (by omega)];exact (h0 a).1
 obtain ⟨e1,e2⟩:=BB hx hi hm;have ic:=qd (r:=s.h) k i w;refine ⟨{ s with h:=(s.h.put k i w).2 },?_,⟨fun p hp=>?_,hU.gm,wL hU.ni k i w,fun j hj c' f' l' h=>?_⟩,⟨hv.ks.putN (hU.gm k hG).1 _ _,hv.names,hv.top⟩,rfl,e2,ic⟩
 ·unfold SP.putW;rw [iH k1 k2,e1]
 ·obtain ⟨f',l',h⟩:=hU.base p hp;by_cases U1:p.1=k
  ·rw [U1,hx] at h;simp only [Option.some.injEq,Prod.mk.injEq] at h;rw [U1,←h.1];exact ⟨_,_,e2⟩
  ·exact ⟨f',l',(ic _ U1).trans h⟩
 ·by_cases T8:j=k
  ·rw [T8] at h;rw [show ob (s.h.put k i w).2 k=some (c,f,l.set i.toNat w) from e2] at h;simp only [Option.some.injEq,Prod.mk.injEq] at h;obtain ⟨rfl,rfl,rfl⟩:=h;refine VW.imp id fun ⟨b1,b2,b3⟩=>⟨b1,b2,fun z hz=>?_⟩;rcases a3C hz with hz | rfl
   ·exact b3 z hz
   ·exact (h0 b1).2
  ·rw [show ob (s.h.put k i w).2 j=ob s.h j from ic j T8] at h;exact hU.own j hj c' f' l' h
theorem UW.lay {k c f:Int} (k1:1<=k) (k2:k<=65536) (hG:Gw k):∀ (xs done rest:List Int) (s:SP),UW s v Gw->KAllW s t v->ob s.h k=some (c,f,done++rest)->rest.length=xs.length->(f=1->∀ w∈xs,0<=w∧w<=255)->(f=0->∀ w∈xs,dL w∧WK v Gw w) ->
  ∃ s2,s.layE (4*k) (done.length:Int) xs=(0,s2)∧UW s2 v Gw∧KAllW s2 t v∧s2.stack=s.stack∧ob s2.h k=some (c,f,done++xs)∧∀ j,j≠k->ob s2.h j=ob s.h j:=by
 intro xs
 induction xs with
 | nil =>
  intro done rest s hU hv hx hl _ _
  have:rest=[]:=a1o hl;subst this;exact ⟨s,rfl,hU,hv,rfl,hx,fun _ _=>rfl⟩
 | cons x xs ih =>
  intro done rest s hU hv hx hl h1 h0;cases rest with
  | nil=>simp at hl
  | cons y rest =>
   obtain ⟨s2,e,hU2,hv2,s8,At,ic⟩:=hU.put hv hG hx k1 k2 (i:=(done.length:Int)) (w:=x) (by simp;omega) (fun h=>h1 h x (by simp)) fun h=>h0 h x (by simp);have eset:(done++y :: rest).set (done.length:Int).toNat x=(done++[x])++rest:=by simp
   rw [eset] at At;obtain ⟨s3,g1,g2,g3,g4,g5,g6⟩:=ih (done++[x]) rest s2 hU2 hv2 At (by simpa using hl) (fun h w hw=>h1 h w (by simp [hw])) fun h w hw=>h0 h w (by simp [hw]);refine ⟨s3,?_,g2,g3,g4.trans s8,by simpa using g5,fun j hj=>(g6 j hj).trans (ic j hj)⟩;unfold SP.layE;rw [e];simp only;rw [a0a (by simp),←g1];simp
theorem UW.make (hU:UW s v Gw) (hv:KAllW s t v) (hp:PairV v) (hR:mq v){c f:Int} (hc:1<=c∧c<=65536){xs:List Int} (fb:(f=1∧c=10∧∀ w∈xs,0<=w∧w<=255)∨(f=0∧pC v (4*c)∧∀ w∈xs,dL w∧WK v Gw w)) :
  KAllW (s.makeP c f xs).2 t v∧(s.makeP c f xs).2.stack=s.stack∧∃ G':Int->Prop,(∀ k,Gw k->G' k)∧UW (s.makeP c f xs).2 v G'∧((s.makeP c f xs).1.2=0->WK v G' (s.makeP c f xs).1.1):=by
 obtain ⟨a1,a2,G',hm,a3,a4⟩:=hU.alloc hv hp hR (fM hc.1 hc.2) (xs.length:Int) (f:=f) (by
  rcases fb with ⟨h1,h2,_⟩ | ⟨h1,h2,_⟩
  ·exact .inl ⟨h1,by omega⟩
  ·exact .inr ⟨h1,h2⟩)
 unfold SP.makeP;generalize s.alloc (4*c) (xs.length:Int) f=Z at a1 a2 a3 a4 ⊢;split
 ·rename_i he;exact ⟨a1,a2,G',hm,a3,fun h=>absurd h he⟩
 ·rename_i he;obtain ⟨o,e,o1,o2,hG,ho⟩:=a4 (a0v he);obtain ⟨s2,g1,g2,g3,g4,_,_⟩:=UW.lay (t:=t) o1 o2 hG xs [] (List.replicate (xs.length:Int).toNat (if f=1 then 0 else 4)) Z.2 a3 a1 (by simpa using ho) (by simp) (fun h=>by
   rcases fb with ⟨_,_,h3⟩ | ⟨h1,_⟩
   ·exact h3
   ·omega) (fun h=>by
   rcases fb with ⟨h1,_⟩ | ⟨_,_,h3⟩
   ·omega
   ·exact fun w hw=>⟨(h3 w hw).1,(h3 w hw).2.mono hm⟩)
  have e0:((List.nil (α:=Int)).length:Int)=0:=rfl;rw [e0] at g1;rw [e,g1];refine ⟨g3,g4.trans a2,G',hm,g2,fun _=>?_⟩;show WK v G' (if (0:Int)=0 then 4*o else 0);rw [a0b rfl];exact WK.own hG
structure PL (s:SP) (t:TB) (v:KV) (Gw:Int->Prop) (R:PR):Prop where
 all:KAllW R.2.1 R.2.2 v
 stk:R.2.1.stack=s.stack
 uw:∃ G':Int->Prop,(∀ k,Gw k->G' k)∧UW R.2.1 v G'∧(R.1.2=0->WK v G' R.1.1)
theorem PL.look (hU:UW s v Gw) (hv:KAllW s t v){res:Int × Int} (h:res.2=0->WK v Gw res.1):PL s t v Gw (res,s,t):=⟨hv,rfl,Gw,fun _ h=>h,hU,h⟩
theorem PL.int (hU:UW s v Gw) (hv:KAllW s t v) (m:Int):PL s t v Gw (iA m,s,t):=by
 refine .look hU hv fun _=>WK.small ?_;unfold iA;split
 ·show aU (2*m+1)≠3;unfold aU;rw [a0b (by omega)];decide
 ·show aU 0≠3;decide
theorem PL.made (hU:UW s v Gw) (hv:KAllW s t v) (hp:PairV v) (hR:mq v){c f:Int} (hc:1<=c∧c<=65536){xs:List Int} (fb:(f=1∧c=10∧∀ w∈xs,0<=w∧w<=255)∨(f=0∧pC v (4*c)∧∀ w∈xs,dL w∧WK v Gw w)):PL s t v Gw (C3 s t c f xs):=by
 obtain ⟨a1,a2,a3⟩:=hU.make hv hp hR hc fb;exact ⟨a1,a2,a3⟩
theorem PL.fresh (hU:UW s v Gw) (hv:KAllW s t v) (hp:PairV v) (hR:mq v) (hc:aU r=3){m f:Int} (fb:(f=1∧r=40)∨(f=0∧pC v r)):PL s t v Gw (Cc s t r m f):=by
 obtain ⟨a1,a2,G',hm,a3,a4⟩:=hU.alloc hv hp hR hc m fb;refine ⟨a1,a2,G',hm,a3,fun h=>?_⟩;have h0:(s.alloc r m f).1.2=0:=h;obtain ⟨o,e,o1,o2,hG,_⟩:=a4 h0;show WK v G' (vw s r m f);unfold vw;rw [a0b h0,e];exact WK.own hG
theorem PL.elem (hU:UW s v Gw) (hv:KAllW s t v) (I9:∀ w∈ar,dL w∧WK v Gw w){m:Int} (h:0<m->aU r=3∧∃ c l,ob s.h (r / 4)=some (c,0,l)∧(l.length:Int)=m∧Gw (r / 4)∧∀ w∈l,WK v Gw w):PL s t v Gw (dP s t r ar m):=by
 unfold dP;split
 ·rename_i h0;exact .look hU hv fun h=>absurd h h0
 rename_i h0;obtain ⟨i0,i1⟩:=jT (a0v h0);obtain ⟨h3,c,l,hx,hm,hG,hl⟩:=h (by omega);obtain ⟨er,r1,r2⟩:=ef h3;split
 ·refine .look hU hv fun _=>?_;show WK v Gw (eU s.h r (bG m (ar.getD 0 0)).1);rw [pK h3 hx i0 (by omega)];exact hl _ (Cj i0 (by omega))
 ·rename_i h2;have hy:dL (ar.getD 1 0)∧WK v Gw (ar.getD 1 0):=by
   have hi:1<ar.length:=by omega
   rw [a1f,a0Q hi];exact I9 _ (a04 hi)
  obtain ⟨s2,g1,g2,g3,g4,_⟩:=hU.put hv hG hx r1 r2 (i:=(bG m (ar.getD 0 0)).1) (w:=ar.getD 1 0) ⟨i0,by omega⟩ (fun h=>by cases h) (fun _=>hy);rw [←er] at g1;rw [g1];exact ⟨g3,g4,Gw,fun _ h=>h,g2,fun _=>hy.2⟩
def Qt (s:SP) (v:KV) (r:Int):PO->Prop
 | .at=>cK s.h r=11
 | .byteAt | .bytePut | .join | .eq | .less | .asSym=>oh s r
 | .fresh | .sized=>cK s.h r=12
 | .slot i=>cK s.h r=12∧(i=0∨i=1)
 | _=>True
theorem N3 (hU:UW s v Gw) (hv:KAllW s t v) (hp:PairV v) (hR:mq v) (hr:WK v Gw r) (h0:cK s.h r≠0) (I9:∀ w∈ar,dL w∧WK v Gw w):∀ {o:PO},Qt s v r o->PL s t v Gw (bS s t v r ar o):=by
 obtain ⟨p4,p5,p6,p7,p8,p9,p10,p11,p12,_⟩:=lI hp;have tw_:∀ z:Bool,PL s t v Gw ((tw z,0),s,t):=fun z=>.look hU hv fun _=>WK.tw z;have bad:∀ e:Int,e≠0->PL s t v Gw ((0,e),s,t):=fun e he=>.look hU hv fun h=>absurd h he;have D2:=uh hv h0;have y1:∀ i,i<ar.length->dL (ar.getD i 0)∧WK v Gw (ar.getD i 0):=fun i hi=>by
  rw [a1f,a0Q hi];exact I9 _ (a04 hi)
 have cls12:cK s.h r=12->aU r=3∧∃ i,∃ hi:i<v.cls.length,r / 4=(v.cls[i]).oop∧ob s.h (r / 4)=some (48,0,(v.cls[i]).slots i):=fun Jb=>by
  rcases hU.view hv hr h0 with ⟨_,e⟩ | ⟨_,e⟩ | ⟨h3,c,f,l,hx,JO,e,hc⟩
  ·omega
  ·omega
  ·refine ⟨h3,?_⟩;rcases hc with (rfl | rfl | rfl) | ⟨_,rfl,_⟩ | ⟨rfl,rfl,i,hi,e1,rfl⟩ | ⟨_,⟨_,rfl⟩ | ⟨_,hO,_⟩⟩
   ·omega
   ·omega
   ·omega
   ·omega
   ·exact ⟨i,hi,e1,hx⟩
   ·omega
   ·rcases pF hp hO JO with e' | e' | ⟨j,e',hj⟩
    ·omega
    ·omega
    ·rw [←e,Jb,p12] at e';cases e';omega
 intro o ho;cases o with
 | same=>exact tw_ _
 | other=>exact tw_ _
 | cls =>
  refine .look hU hv fun _=>?_;rcases hU.view hv hr h0 with ⟨_,e⟩ | ⟨_,e⟩ | ⟨h3,c,f,l,hx,JO,e,hc⟩
  ·rw [e];exact WK.cls p8
  ·rw [e];exact WK.cls p9
  ·rw [e];rcases hc with (rfl | rfl | rfl) | ⟨_,rfl,_⟩ | ⟨rfl,_⟩ | ⟨_,⟨_,rfl⟩ | ⟨_,hO,_⟩⟩
   ·exact WK.cls p5
   ·exact WK.cls p6
   ·exact WK.cls p7
   ·exact WK.cls p11
   ·exact WK.cls p12
   ·exact WK.cls p10
   ·rcases pF hp hO JO with e' | e' | ⟨j,e',hj⟩
    ·rw [e'];exact WK.cls p11
    ·rw [e'];exact WK.cls p4
    ·exact WK.cls e'
 | isNil=>exact tw_ _
 | notNil=>exact tw_ _
 | self=>exact .look hU hv fun _=>hr
 | isKind =>
  simp only [bS];split
  ·exact bad _ (by decide)
  ·exact tw_ _
 | ivSize=>exact .int hU hv _
 | ivAt =>
  refine .elem hU hv I9 fun hm=>?_;unfold cT at hm ⊢;cases hi:fX v (cK s.h r) with
  | false=>rw [hi] at hm;simp at hm
  | true =>
   obtain ⟨h3,c,l,hx,_,_,hG,_,hl⟩:=hU.inst hv hp hr h0 hi;refine ⟨h3,c,l,hx,?_,hG,hl⟩;simp only [if_true];rw [mP h3 hx]
 | copy =>
  simp only [bS];split
  ·rename_i hc;rcases hU.view hv hr h0 with ⟨h1,e⟩ | ⟨h1,e⟩ | ⟨h3,c,f,l,hx,JO,e,X5⟩
   ·rcases hc with h | h | h
    ·omega
    ·omega
    ·have:=(hU.inst hv hp hr h0 h).1;omega
   ·rcases hc with h | h | h
    ·omega
    ·omega
    ·have:=(hU.inst hv hp hr h0 h).1;omega
   ·rw [mP h3 hx] at hc ⊢;simp only [a0j] at hc ⊢;rw [vL h3 hx];refine .made hU hv hp hR D2 ?_;have no:∀ {o:Int}{i:Nat},cK s.h r=o->eR v o=some i->i<14->i≠0->o≠10->(o=11->l.length=0)->False:=fun {o i} eo JG h14 ic qz I3=>by
     rcases hc with h | h | h
     ·omega
     ·exact h.2 (I3 (by omega))
     ·unfold fX at h;rw [eo,JG] at h
      have:o≠4:=fun e4=>by rw [e4,p4] at JG;cases JG;exact ic rfl
      simp only [this,decide_false,Bool.false_or,decide_eq_true_eq] at h;omega
    rcases X5 with (rfl | rfl | rfl) | ⟨_,rfl,SN⟩ | ⟨rfl,_⟩ | ⟨_,⟨rfl,rfl⟩ | ⟨rfl,hO,hl⟩⟩
    ·exact (no e p5 (by decide) (by decide) (by decide) (fun h=>absurd h (by decide))).elim
    ·exact (no e p6 (by decide) (by decide) (by decide) (fun h=>absurd h (by decide))).elim
    ·exact (no e p7 (by decide) (by decide) (by decide) (fun h=>absurd h (by decide))).elim
    ·exact (no e p11 (by decide) (by decide) (by decide) (fun _=>by rw [SN];rfl)).elim
    ·exact (no e p12 (by decide) (by decide) (by decide) (fun h=>absurd h (by decide))).elim
    ·exact .inl ⟨rfl,e,(tt hv hx).1⟩
    ·refine .inr ⟨rfl,?_,fun w hw=>⟨?_,hl w hw⟩⟩
     ·rw [e,←(ef JO).1];exact hO
     ·obtain ⟨o',xB,_,s7,rfl⟩:=dg.1 hx
      have:=(hv.ks.wf.h.objs.good o' (aR xB).1).may w hw;unfold fv at this;rw [a0a (by omega)] at this;exact this
  ·exact .look hU hv fun _=>hr
 | not=>exact tw_ _
 | and =>
  simp only [bS];split
  ·exact tw_ _
  ·split
   ·exact tw_ false
   ·exact bad _ (by decide)
 | or =>
  simp only [bS];split
  ·exact tw_ true
  ·split
   ·exact tw_ _
   ·exact bad _ (by decide)
 | num f =>
  simp only [bS];split
  ·exact bad _ (by decide)
  ·split
   ·rename_i h;exact bad _ h
   ·exact .int hU hv _
 | cmp f =>
  simp only [bS];split
  ·exact bad _ (by decide)
  ·exact tw_ _
 | neg=>exact .int hU hv _
 | abs =>
  simp only [bS];split
  ·exact .int hU hv _
  ·exact .look hU hv fun _=>hr
 | even=>exact tw_ _
 | odd=>exact tw_ _
 | print=>exact .made hU hv hp hR (by decide) (.inl ⟨rfl,rfl,iv _⟩)
 | len=>exact .int hU hv _
 | asStr=>exact .made hU hv hp hR (by decide) (.inl ⟨rfl,rfl,iv _⟩)
 | symLess =>
  simp only [bS];split
  ·exact bad _ (by decide)
  ·exact tw_ _
 | size=>exact .int hU hv _
 | empty=>exact tw_ _
 | byteAt =>
  simp only [bS];unfold sR;split
  ·rename_i h;exact bad _ h
  ·exact .int hU hv _
 | bytePut =>
  obtain ⟨k,y,rfl,hs,hy⟩:=(show oh s r from ho);obtain ⟨k1,k2⟩:=ju hv hs;simp only [bS];split
  ·exact bad _ (by decide)
  rename_i hz;simp only [a21] at hz;split
  ·rename_i h;exact bad _ h
  rename_i h2;obtain ⟨i0,i1⟩:=jT (a0v h2);have h3:aU (4*k)=3:=fM k1 k2;have e4:4*k / 4=k:=by omega
  obtain ⟨o',xB,s7,Vs,Ou⟩:=hs;have hx:ob s.h (4*k / 4)=some (40,1,bN y):=by rw [e4];exact dg.2 ⟨o',xB,Vs,s7,Ou⟩
  have hG:Gw k:=by
   rcases hU.view hv hr h0 with ⟨h1,_⟩ | ⟨h1,_⟩ | ⟨_,c,f,l,At,_,_,hc⟩
   ·omega
   ·omega
   ·rw [hx] at At;simp only [Option.some.injEq,Prod.mk.injEq] at At;rcases hc with hc | ⟨_,hc,_⟩ | ⟨hc,_⟩ | ⟨hG,_⟩
    ·omega
    ·omega
    ·omega
    ·rw [e4] at hG;exact hG
  rw [e4] at hx;have e1:=mP h3 (by rw [e4];exact hx);rw [e1] at i1;obtain ⟨s2,g1,g2,g3,g4,_⟩:=hU.put hv hG hx k1 k2 (i:=(bG (dl s.h (4*k)).1 (ar.getD 0 0)).1) (w:=ar.getD 1 0 / 2) ⟨i0,by rw [e1];exact i1⟩ (fun _=>⟨by omega,by omega⟩) (fun h=>by cases h);rw [g1];refine ⟨g3,g4,Gw,fun _ h=>h,g2,fun _=>WK.small ?_⟩
  have:=a0v hz.2.1;show aU (ar.getD 1 0)≠3;omega
 | join =>
  simp only [bS];split
  ·exact bad _ (by decide)
  ·split
   ·exact bad _ (by decide)
   ·exact .made hU hv hp hR (by decide) (.inl ⟨rfl,rfl,iv _⟩)
 | eq=>exact tw_ _
 | less =>
  simp only [bS];split
  ·exact bad _ (by decide)
  ·exact tw_ _
 | asSym =>
  simp only [bS];split
  ·exact bad _ (by decide)
  ·have w1:=iq hv.names.wf (ee s.h t r);have p1:=(uy t (ee s.h t r)).2;refine ⟨⟨hv.ks,hv.names.grow w1 p1,hv.top⟩,rfl,Gw,fun _ h=>h,hU,fun h=>?_⟩;simp only at h ⊢;split at h
   ·rename_i h';exact absurd h h'
   ·rename_i h';rw [a0a h'];obtain ⟨m,e1,e2,_⟩:=kH (ee s.h t r) (a0v h');refine WK.small ?_;have TN:=(a3s.1 e2).1;have OJ:=(tV t (ee s.h t r)).1;have Rx:=w1.len;have UP:=w1.m1;rw [e1];show aU (4*(m:Int)+2)≠3;unfold aU;rw [a0a (by omega),a0b (by omega)];decide
 | «at» =>
  have I3:cK s.h r=11:=ho;refine .elem hU hv I9 fun hm=>?_;rcases hU.view hv hr h0 with ⟨_,e⟩ | ⟨_,e⟩ | ⟨h3,c,f,l,hx,JO,e,hc⟩
  ·omega
  ·omega
  ·rw [mP h3 hx] at hm ⊢;rcases hc with (rfl | rfl | rfl) | ⟨_,rfl,SN⟩ | ⟨rfl,_⟩ | ⟨hG,⟨_,rfl⟩ | ⟨rfl,_,hl⟩⟩
   ·omega
   ·omega
   ·omega
   ·rw [SN] at hm;simp at hm
   ·omega
   ·omega
   ·exact ⟨h3,c,l,hx,rfl,hG,hl⟩
 | fresh =>
  obtain ⟨h3,i,hi,ei,hx⟩:=cls12 ho;simp only [bS];split
  ·exact bad _ (by decide)
  ·rename_i j hj;split
   ·exact bad _ (by decide)
   ·rename_i hc;have er:=(ef h3).1;refine .fresh hU hv hp hR h3 (.inr ⟨rfl,.inr ⟨r / 4,j,er,hj,?_⟩⟩);omega
 | sized =>
  obtain ⟨h3,i,hi,ei,hx⟩:=cls12 ho;have er:=(ef h3).1;simp only [bS];split
  ·exact bad _ (by decide)
  ·rename_i hz;split
   ·rename_i qz;exact .fresh hU hv hp hR h3 (.inl ⟨rfl,by omega⟩)
   ·rename_i qz;split
    ·exact .look hU hv fun _=>fun _=>.inr (.inr (.inr (.inl rfl)))
    ·have I3:r / 4=11:=a0v fun e=>hz (.inl ⟨qz,e⟩);exact .fresh hU hv hp hR h3 (.inr ⟨rfl,.inl (by omega)⟩)
 | slot i =>
  obtain ⟨Jb,a1m⟩:=(show cK s.h r=12∧(i=0∨i=1) from ho);obtain ⟨h3,j,hj,ej,hx⟩:=cls12 Jb;refine .look hU hv fun _=>?_;show WK v Gw (eU s.h r i);rcases a1m with rfl | rfl
  ·rw [pK h3 hx (by decide) (by simp [CV.slots])];have hnm:=hv.names.name _ (a04 hj);have htl1:=hv.names.wf.len;have htl2:=hv.names.wf.m1;refine WK.small ?_;show aU (4*((v.cls[j]).name:Int)+2)≠3;unfold aU;rw [a0a (by omega),a0b (by omega)];decide
  ·rw [pK h3 hx (by decide) (by simp [CV.slots])];show WK v Gw (4*(v.cls[j]).up);by_cases hj0:j=0
   ·subst hj0;rw [(hv.ks.shape.up0 hj).1];exact WK.nil
   ·obtain ⟨m,hm,_,eup⟩:=hv.ks.shape.ups j hj (by omega);have Tc:=hv.ks.idx hm;rw [eup] at Tc;exact WK.cls Tc
end
end
section
attribute [local irreducible] bL cy cH
theorem IB {v:KV}{t:TB}{name sup:ByteArray}{own:List ByteArray} (h:(lD v t name sup own).2=0):∃ j,eR v (fy v t sup).1=some j∧(j=0∨14<=j):=by
 unfold lD at h;split at h
 ·cases h
 split at h
 ·cases h
 split at h
 ·rename_i h3;exact absurd h h3
 split at h
 ·cases h
 ·rename_i j hj;split at h
  ·cases h
  ·rename_i hn;exact ⟨j,hj,by omega⟩
theorem fC {v:KV}{o:Int}{i:Nat} (h:eR v o=some i) (c:CV) (d:Int):eR (v.addC c d) o=some i:=by
 unfold eR at h ⊢;show (v.cls++[c]).findIdx? _=some i;rw [List.findIdx?_append,h];rfl
structure BaseV (s:SP) (t:TB) (v:KV):Prop where
 all:KAll s t v
 bo:BO s.h (fW v)
 rest:mq v
 pair:PairV v
 kern:∀ o,4<=o->o<=17->∃ i,eR v o=some i
 ni:gW NI s.h
theorem BaseV.uw {s:SP}{t:TB}{v:KV} (B:BaseV s t v):UW s v (fun _=>False):=⟨B.bo,fun _ h=>h.elim,B.ni,fun _ h=>h.elim⟩
section
attribute [local semireducible] bL cy cH
theorem Bi (w o m b t:Int):((cy ⟨w,o,m,b,t,cH⟩).objs.all fun x=>decide (x.cls≠32∧x.cls≠36))=true:=by kernel_rfl
end
theorem GU {words oops:Int} (h:((cC words oops).allocAll ba).1=0):gW NI (bL words oops):=by
 have e:=nz h;have h1:=Bi words oops 0 20 0;rw [←e] at h1;intro o ho;have h2:=a2N.1 h1 o ho;exact (of_decide_eq_true h2:o.cls≠32∧o.cls≠36)
theorem BS {P:Int->Prop}{s:SP} (h:gW P s.h) (ws:List Int):gW P (s.keepW ws).2.h:=by
 rw [Dl];exact h
theorem Co {P:Int->Prop}:∀ (ws:List Int){r:RH},gW P r->∀ j i,gW P (r.lay j i ws)
 | [],_,h,_,_=>h
 | w :: ws,_,h,j,i=>Co ws (wL h j i w) j (i+1)
theorem pT {P:Int->Prop}{s:SP} (h:gW P s.h){c:Int} (hc:P (4*c)) (ws:List Int):gW P (s.make c ws).2.h:=by
 unfold SP.make;split
 ·exact oD h hc _ _
 ·exact BS (Co ws (oD h hc _ _) _ _) _
theorem jY {s:SP} (h:gW NI s.h) (ws:List Int):gW NI (s.array ws).2.h:=by
 unfold SP.array;split
 ·exact h
 ·exact pT h ⟨by decide,by decide⟩ ws
theorem um {s:SP} (h:gW NI s.h) (t:TB) (cw:List Int) (name:ByteArray) (up:Int) (own:List ByteArray):gW NI (gF s t cw name up own).2.1.h:=by
 unfold gF;split
 ·exact h
 split
 ·exact h
 unfold lx;split
 ·exact jY h _
 unfold jo;split
 ·exact pT (jY h _) ⟨by decide,by decide⟩ _
 unfold fI;split
 ·exact jY (pT (jY h _) ⟨by decide,by decide⟩ _) _
 ·exact wL (jY (pT (jY h _) ⟨by decide,by decide⟩ _) _) _ _ _
theorem yc {s:SP} (h:gW NI s.h) (t:TB) (cw:List Int) (name:ByteArray) (up:Int) (own:List ByteArray):gW NI (cU s t cw name up own).2.1.h:=by
 unfold cU pA;split
 ·show gW NI (SP.drop _ _).2.h;rw [xf];exact um h t cw name up own
 ·show gW NI (if _ then _ else _);split
  ·exact um h t cw name up own
  ·exact vB (um h t cw name up own) _
theorem zK {words oops:Int} (g:0<=words∧words<=1048576∧0<=oops∧oops<=65536) (e0:((cC words oops).allocAll ba).1=0):BaseV (kQ words oops) jp jQ:=by
 refine ⟨KT g.1 g.2.1 g.2.2.1 g.2.2.2 e0,HY e0,⟨by decide,by decide⟩,⟨⟨rfl,rfl,rfl,rfl,rfl,rfl,rfl,rfl,rfl,rfl,rfl⟩,fun i=>?_⟩,fun o h4 UB=>?_,?_⟩
 ·unfold dG;rcases i with _ | _ | _ | _ | _ | _ | _ | _ | _ | _ | _ | _ | _ | _ | i
  all_goals first | exact .inl rfl | exact .inr (.inl rfl)
 ·have:o=4∨o=5∨o=6∨o=7∨o=8∨o=9∨o=10∨o=11∨o=12∨o=13∨o=14∨o=15∨o=16∨o=17:=by omega
  rcases this with rfl | rfl | rfl | rfl | rfl | rfl | rfl | rfl | rfl | rfl | rfl | rfl | rfl | rfl
  all_goals exact ⟨_,rfl⟩
 ·exact GU e0
theorem uQ {s:SP}{t:TB}{v:KV} (B:BaseV s t v){j:Nat} (hj:j<v.cls.length):1<=(v.cls[j]).oop∧(v.cls[j]).oop<=65536:=by
 obtain ⟨f,sl,hx⟩:=B.bo ((v.cls[j]).oop,48) (by
  unfold fW;simp only [a0E,a1n];exact .inr (.inr (.inr (.inr ⟨v.cls[j],a04 hj,rfl⟩))))
 obtain ⟨o,ho,_⟩:=dg.1 hx;have hmo:=aR ho;have hg:=B.all.ks.wf.h.objs.good o hmo.1;have g1:=hg.oop1;have g2:=hg.oop2;have g3:=B.all.ks.wf.h.o1;have g4:o.oop=(v.cls[j]).oop:=hmo.2;omega
theorem zW {s:SP}{t:TB}{v:KV} (B:BaseV s t v) (name sup:ByteArray) (own:List ByteArray) :
  ∃ v',BaseV (cY s v t name sup own).2.1 (cY s v t name sup own).2.2 v'∧((cY s v t name sup own).1.1=0∨∃ c∈v'.cls,c.oop=(cY s v t name sup own).1.1):=by
 unfold cY;by_cases h:(lD v t name sup own).2=0
 ·rw [a0a (by simpa using h)];obtain ⟨j,hj,ej,an,Db,SU,Tc⟩:=tU B.all.w h;obtain ⟨j',Sa,s6⟩:=IB h;rw [SU] at Sa;have ejj:j'=j:=by
   have h9:eR v (v.cls[j]).oop=some j':=Sa;rw [Tc] at h9;exact (Option.some.inj h9).symm
  subst ejj;rw [ej];have s8:s.stack.length<60000:=by rw [B.all.stack];decide
  have A:=yf B.all hj an (name:=name) (own:=own) Db;have D:=yR B.all.ks s8 hj an B.all.names.wf name own;have keep:∀ p∈fW v,Reaches s.h s.roots p.1∧p.1≠19:=by
   intro p hp;refine ⟨B.uw.breach B.all.ks B.rest p hp,?_⟩;have hs:=vx B.all.ks.view B.all.ks.sep;unfold fW at hp;simp only [a0E] at hp;rcases hp with rfl | rfl | rfl | rfl | hp
   ·decide
   ·decide
   ·decide
   ·decide
   ·obtain ⟨c,hc,rfl⟩:=a1n.1 hp;obtain ⟨i,hi,rfl⟩:=a2X.1 hc;exact hs ((v.cls[i]).oop,(v.cls[i]).slots i) (by
     simp only [a0E];exact .inr (.inr (.inr (.inr (kz (i:=0) hi (by simp [crole]))))))
  have Rv:co s.h (cU s t v.clsW name (v.cls[j']).oop own).2.1.h (fun k=>Reaches s.h s.roots k∧k≠19):=by
   unfold cU;exact sB D.keep _ _ _ _ _
  have ni0:=yc B.ni t v.clsW name (v.cls[j']).oop own;have bo0:BO (cU s t v.clsW name (v.cls[j']).oop own).2.1.h (fW v):=fun p hp=>by
   obtain ⟨f,sl,hx⟩:=B.bo p hp;exact ⟨f,sl,Rv.ob (keep p hp) hx⟩
  by_cases he:(cU s t v.clsW name (v.cls[j']).oop own).1.2=0
  ·obtain ⟨n,ns,l,d,b8,_⟩:=A.2 he;have Se:∃ f sl,ob (cU s t v.clsW name (v.cls[j']).oop own).2.1.h (cU s t v.clsW name (v.cls[j']).oop own).1.1=some (48,f,sl):=by
    unfold cU at he ⊢;simp only at he ⊢;rw [a0b he];have Jy:∃ f sl,ob (gF s t v.clsW name (v.cls[j']).oop own).2.1.h (gF s t v.clsW name (v.cls[j']).oop own).1.1=some (48,f,sl):=by
     have w1:=iq B.all.names.wf name;have S1:=pi w1 (acc:=[]) (l:=own) (by simp);unfold gF at he ⊢;by_cases ha:(t.add name).1.2=0
     ·rw [a0a (by simpa using ha)] at he ⊢;have hn:dL (4*(t.add name).1.1+2):=by
       have:=pi B.all.names.wf (acc:=[]) (l:=[name]) (by simp) (4*(t.add name).1.1+2) (by simp [TB.addAll,ha]);exact this
      by_cases k8:((t.add name).2.addAll [] own).1.2=0
      ·rw [a0a (by simpa using k8)] at he ⊢;exact wZ B.all.ks s8 hn (uQ B hj) S1 an he
      ·rw [a0b (by simpa using k8)] at he;exact absurd he k8
     ·rw [a0b (by simpa using ha)] at he;exact absurd he ha
    obtain ⟨f,sl,hx⟩:=Jy;have hk:=sB (co.refl (gF s t v.clsW name (v.cls[j']).oop own).2.1.h fun _=>True) (gF s t v.clsW name (v.cls[j']).oop own).2.2 s.h.mark t.texts.length s.stack.length (gF s t v.clsW name (v.cls[j']).oop own).1.2;exact ⟨f,sl,hk.ob trivial hx⟩
   refine ⟨_,⟨b8,fun p hp=>?_,B.rest,⟨?_,fun i=>?_⟩,fun o h4 UB=>?_,ni0⟩,.inr ⟨_,by unfold KV.addC;exact a3o _ (a0A.2 rfl),rfl⟩⟩
   ·have hb:∀ (c:CV) d,fW (v.addC c d)=fW v++[(c.oop,48)]:=fun c d=>by simp [fW,KV.addC]
    rw [hb] at hp;rcases a0T.1 hp with hp | hp
    ·exact bo0 p hp
    ·rw [a0A.1 hp];exact Se
   ·obtain ⟨a1,a2,a3,a4,a5,a6,a7,a8,a9,a10,a11⟩:=B.pair.pl;exact ⟨fC a1 _ _,fC a2 _ _,fC a3 _ _,fC a4 _ _,fC a5 _ _,fC a6 _ _,fC a7 _ _,fC a8 _ _,fC a9 _ _,fC a10 _ _,fC a11 _ _⟩
   ·rcases Nat.lt_trichotomy i v.cls.length with hi | hi | hi
    ·have e:∀ (c:CV) d,dG (v.addC c d) i=dG v i:=fun c d=>by
      unfold dG
      have:(v.addC c d).cls[i]?=v.cls[i]?:=a2x hi;rw [this]
     rw [e];rcases B.pair.up i with h1 | h1 | ⟨m,h1,h2⟩
     ·exact .inl h1
     ·exact .inr (.inl h1)
     ·exact .inr (.inr ⟨m,fC h1 _ _,h2⟩)
    ·have e:∀ (c:CV) d,dG (v.addC c d) i=if c.up=1 then 0 else c.up:=fun c d=>by
      unfold dG
      have:(v.addC c d).cls[i]?=some c:=by
       show (v.cls++[c])[i]?=some c;rw [hi,a2Z (a0U _),a4b];rfl
      rw [this]
     rw [e];simp only;split
     ·exact .inl rfl
     ·rcases s6 with h0 | h14
      ·right;left
       have:=B.pair.pl.1;obtain ⟨Sy,e0⟩:=dS this;subst h0;exact e0
      ·exact .inr (.inr ⟨j',fC Tc _ _,h14⟩)
    ·left;unfold dG
     have:∀ (c:CV) d,(v.addC c d).cls[i]?=none:=fun c d=>by
      show (v.cls++[c])[i]?=none;rw [a2I];simp;omega
     rw [this]
   ·obtain ⟨i,hi⟩:=B.kern o h4 UB;exact ⟨i,fC hi _ _⟩
  ·exact ⟨v,⟨(A.1 he).2.1,bo0,B.rest,B.pair,B.kern,ni0⟩,.inl (A.1 he).1⟩
 ·rw [a0b (by simpa using h)];exact ⟨v,B,.inl rfl⟩
end
section
variable {Q:QT}{H:au}
variable {a b c d A B D P:Option Addr}{i j k m n x y z I J K M N:Int}{l o r s u v L O R S U V:Nat}{t w T W:ByteArray}{e E g:Bool}{q:Option Nat}{p X Y Z:Value}{F G:Addr}
theorem Mg (h:ah (cD a) (Q (ac 2) H) (ah (aX i 0) (Q (ac 1) H) (ah (bP i 1073741824) (Q (ac 1) H) (aE a fun a=>bj H (a.add 2) (ac i) fun a=>Q (ac 0) a)))):ag PP 46 #[.pointer a,ac i] Q H :=
 okF Tryz.func46 rfl h
theorem MY (h:ah (cD a) (Q (ac 2) H) (ah (aX i 0) (Q (ac 28) H) (aE a fun b=>aK H (b.add 2) fun _ b _=>ah (bP i (b:Int)) (Q (ac 28) H) (aE a fun b=>aK H (b.add 2) fun b _ c=>aE a fun d=>aK H (d.add 2) fun _ d _=>ax (aI ((d:Int)-i)) fun d=>((0:Int)<=d∧d<=(c:Int))∧bM (Builtin.append_ #[30,30] 30 #[av none 0 0,av b (Int.toNat d) c]) H fun b c d e=>True∧aE a fun a=>bj e (a.add 2) (av b c d) fun a=>True∧Q (ac 0) a)))):ag PP 47 #[.pointer a,ac i] Q H :=
 okF Tryz.func47 rfl h
theorem N2 (h:ax (av none 0 0) fun c=>ah (cD a) (Q (bJ #[c,ac 2]) H) (ax (ac 0) fun d=>cL [c,d] H fun e f g i j k m n=>ax (am a) fun a=>ah (aX n (l:Int)) (bf n l b fun b=>ay i (bc b n 1) fun b=>aC 112 #[a,ac b] i fun a b=>cq 111 #[av j k m,ac a] b fun a b c d=>bm e f [av a b c,ac (aI (n+1))] d g i) (cL [av j k m,d] i fun b e f g i j k l=>ah (aX l (j:Int)) (bf l j i fun c=>ay g (bc c l 1) fun c=>ak 52 #[a,ac c] g fun c _ m=>aC 112 #[a,ac c] m fun c m=>cq 111 #[av i j k,ac c] m fun c i j k=>bf l i c fun m=>ay k (bc m l 1) fun m=>bW 53 #[a,ac m] k fun k m _ n=>cL [av c i j,d] n fun c d i j n o p q=>ax (av n o p) fun p=>ax (ac (aI (l+1))) fun r=>ah (aX q k) (ah (m == 0) (bf l o n fun b=>ay j (bc b l 1) fun b=>ak 56 #[a,ac b,ac q] j fun b _ e=>aC 112 #[a,ac b] e fun a b=>cq 111 #[p,ac a] b fun a b e f=>bm c d [av a b e,ac (aI (q+1))] f i j) (bm b e [p,r] j f g)) (bm b e [p,r] j f g)) (cq 113 #[a] g fun a b _ e=>cL [c,d] e fun c e f g l m n o=>ax (av l m n) fun l=>ah (aX o (b:Int)) (bf o b a fun d=>ay g (bc d o 1) fun d=>bk 114 #[av i j k,ac d] g fun d i=>ax (ac (aI (o+1))) fun j=>ah d (bf o b a fun a=>ay i (bc a o 1) fun a=>bM (Builtin.append_ #[25,25] 25 #[l,av (some (aL i.size)) 1 1]) (aJ i #[ac a] 3) fun a b d i=>bm c e [av a b d,j] i f g) (bm c e [l,j] i f g)) (Q (bJ #[l,d]) g))))):ag PP 50 #[.pointer a,.slice b l o] Q H :=
 okL Tryz.func50 rfl (fun | 5=>some [(6,25),(7,3)] | 9=>some [(6,25),(8,3)] | 15=>some [(6,25),(14,3)] | 22=>some [(17,25),(19,3)] | _=>none) h
theorem Mt (h:aE a fun b=>ay H (b.add 1) fun b=>aE a fun a=>aK H (a.add 2) fun c d e=>ax (aJ H #[ac (aI (4*b))] 26) fun b=>((aq b (a.add 2)=some (av c d e)∧True)∧True)∧bM (Builtin.append_ #[30,30] 30 #[av (some (aL H.size)) 1 1,av c d e]) b fun a b c d=>True∧Q (av a b c) d):ag PP 51 #[.pointer a] Q H :=
 okF Tryz.func51 rfl h
theorem My (h:ah (cD a) (Q (aA 0 2) H) (aC 115 #[am a,ac i] H fun b c=>ah (aX b 0) (Q (aA 0 20) c) (aE a fun a=>aK c (a.add 5) fun a d _=>bf b d a fun a=>ay c ((bc a b 6).add 4) fun a=>Q (aA a 0) c))):ag PP 52 #[.pointer a,ac i] Q H :=
 okF Tryz.func52 rfl h
theorem Nk (h:ax (ac 0) fun b=>ah (cD a) (Q (bJ #[b,b,ac 2]) H) (aC 115 #[am a,ac i] H fun c d=>ah (aX c 0) (Q (bJ #[b,b,ac 20]) d) (aE a fun e=>aK d (e.add 5) fun e f _=>bf c f e fun e=>aK d ((bc e c 6).add 5) fun _ e _=>aE a fun a=>aK d (a.add 5) fun a f _=>bf c f a fun a=>ay d ((bc a c 6).add 1) fun a=>Q (bJ #[ac (e:Int),ac a,b]) d))):ag PP 53 #[.pointer a,ac i] Q H :=
 okF Tryz.func53 rfl h
theorem LS (h:ah (cD a) (Q (aA 0 2) H) (aC 115 #[am a,ac i] H fun b c=>ah (aX b 0) (Q (aA 0 20) c) (ah (aX j 0) (Q (aA 0 21) c) (aE a fun d=>aK c (d.add 5) fun d e _=>bf b e d fun d=>aK c ((bc d b 6).add 5) fun _ d _=>ah (decide (j≥(d:Int))) (Q (aA 0 21) c) (aE a fun a=>aK c (a.add 5) fun a d _=>bf b d a fun a=>aK c ((bc a b 6).add 5) fun a b _=>bf j b a fun a=>ay c (bc a j 1) fun a=>Q (aA a 0) c))))):ag PP 56 #[.pointer a,ac i,ac j] Q H :=
 okF Tryz.func56 rfl h
theorem MG (h:ah (cD a) (Q (aA 0 0) H) (aE a fun b=>aF H b fun c=>cq 51 #[am a] H fun d e f g=>((aq g b=some (am c)∧True)∧True)∧dM 50 #[am c,av d e f] g fun b c _ _ d=>True∧aE a fun e=>aF d e fun e=>aE e fun e=>ay d e fun e=>js [ac e,ac 0] d fun d e f g i j=>ah (aX j (c:Int)) (aE a fun a=>aF g a fun a=>bf j c b fun b=>ay g (bc b j 1) fun b=>bW 53 #[am a,ac b] g fun a b _ c=>True∧aC 122 #[ac a,ac b] c fun a b=>bm d e [ac (aI (i-a)),ac (aI (j+1))] b f g) (aE a fun a=>aF g a fun a=>aE a fun a=>ay g (a.add 1) fun a=>Q (aA i (aI (a-(c:Int)))) g))):ag PP 59 #[.pointer a] Q H :=
 okL Tryz.func59 rfl (fun | 6=>some [(6,3),(7,3)] | _=>none) h
theorem MI (h:ah (cD a) (Q (ac 0) H) (aE a fun a=>ay H (a.add 2) fun a=>Q (ac a) H)):ag PP 61 #[.pointer a] Q H :=
 okF Tryz.func61 rfl h
theorem ND (h:ah (cD a) (Q (av none 0 0) H) (aE a fun a=>aK H (a.add 2) fun a b c=>bM (Builtin.append_ #[30,30] 30 #[av none 0 0,av a b c]) H fun a b c d=>Q (av a b c) d)):ag PP 64 #[.pointer a] Q H :=
 okF Tryz.func64 rfl h
theorem L8 (h:fN 224 #[ac i,ac j] H fun a b c=>ah (b != 0) (Q (bJ #[am none,ac b]) c) (ax (ac 0) fun b=>Q (bJ #[am (some (aL c.size)),b]) (aJ c #[am a,b,av none 0 0,aP false,am none,b,b,b] 96))):ag PP 91 #[ac i,ac j] Q H :=
 okF Tryz.func91 rfl h
theorem MQ (h:ah (cD a) (Q (aA 0 2) H) (ax (ac i) fun b=>aC 225 #[b] H fun c d=>ax (aA 0 1) fun e=>ah (c == 0) (Q e d) (ah (aX k 0) (Q e d) (ah (bP k 1) (Q e d) (ah (aX j 0) (Q e d) (ah (bP j 8192) (Q (aA 0 22) d) (aE a fun c=>aK d (c.add 5) fun _ c _=>aE a fun e=>ay d (e.add 1) fun e=>ah (decide ((c:Int)≥e)) (Q (aA 0 23) d) (aE a fun c=>ay d c fun e=>ax (am a) fun f=>aC 226 #[f] d fun d g=>((aq g c=some (ac e)∧True)∧True)∧ax (ac k) fun i=>aC 122 #[ac j,i] g fun g l=>((aq l c=some (ac e)∧True)∧True)∧ah (bP (aI (d+g)) e) (Q (aA 0 23) l) (aE a fun c=>ay l (c.add 2) fun c=>ax (ac 0) fun d=>ah (c == 1) (aE a fun a=>bj l (a.add 2) d fun a=>Q (aA 0 24) a) (mS (fun b=>aE a fun c=>ay l (c.add 2) fun c=>ah (bP c 0) (aE a fun c=>ay l (c.add 2) fun c=>aE a fun a=>bj l (a.add 2) (ac (aI (c-1))) fun a=>b [] a) (b [] l)) fun c=>aE a fun e=>ax (e.add 3) fun e=>ay c e fun g=>ax (ac g) fun g=>ax (some g) fun l=>ax (av none 0 0) fun m=>aC 227 #[f] c (fun c n=>((aq n e=l∧True)∧True)∧aC 226 #[f] n (fun f n=>((aq n e=l∧True)∧True)∧ax (aJ n #[d,d,d,d,d,m] 170) fun o=>((aq o e=l∧True)∧True)∧ax (aL n.size) fun e=>bj o e (ac c) fun c=>bj c (aN n.size 1) i fun c=>bj c (aN n.size 2) (ac f) fun c=>bj c (aN n.size 3) g fun c=>bj c (aN n.size 4) b fun b=>ax (aN n.size 5) fun c=>bj b c m fun b=>True∧bX [d] b fun b f g i l=>ah (aX l j) (ax (av (some (aL i.size)) 1 1) fun a=>ax (ac (aI (l+1))) fun e=>ah (k == 1) (aK i c fun j k l=>bM (Builtin.append_ #[30,30] 30 #[av j k l,a]) (aJ i #[d] 26) fun a d j k=>bj k c (av a d j) fun a=>bm b f [e] a g i) (aK i c fun d j k=>bM (Builtin.append_ #[30,30] 30 #[av d j k,a]) (aJ i #[ac 4] 26) fun a d j k=>bj k c (av a d j) fun a=>bm b f [e] a g i)) (aE a fun b=>ay i (b.add 3) fun b=>aE a fun d=>bj i (d.add 3) (ac (aI (b+1))) fun b=>aE a fun d=>aK b (d.add 5) fun f g i=>ay b e fun j=>ay b (aN n.size 1) fun k=>ay b (aN n.size 2) fun l=>ay b (aN n.size 3) fun m=>ay b (aN n.size 4) fun n=>aK b c fun c o p=>ax (aJ b #[ac j,ac k,ac l,ac m,ac n,av c o p] 170) fun c=>((aq c (d.add 5)=some (av f g i)∧True)∧True)∧bM (Builtin.append_ #[162,162] 162 #[av f g i,av (some (aL b.size)) 1 1]) c fun b c d f=>True∧aE a fun a=>bj f (a.add 5) (av b c d) fun a=>True∧ay a e fun b=>Q (aA b 0) a))∧ax (aJ n #[d,d,d,d,d,m] 170) fun o=>((aq o e=l∧True)∧True)∧aC 226 #[f] o fun f o=>((aq o e=l∧True)∧True)∧ax (aL n.size) fun e=>bj o e (ac c) fun c=>bj c (aN n.size 1) i fun c=>bj c (aN n.size 2) (ac f) fun c=>bj c (aN n.size 3) g fun c=>bj c (aN n.size 4) b fun b=>ax (aN n.size 5) fun c=>bj b c m fun b=>True∧bX [d] b fun b f g i l=>ah (aX l j) (ax (av (some (aL i.size)) 1 1) fun a=>ax (ac (aI (l+1))) fun e=>ah (k == 1) (aK i c fun j k l=>bM (Builtin.append_ #[30,30] 30 #[av j k l,a]) (aJ i #[d] 26) fun a d j k=>bj k c (av a d j) fun a=>bm b f [e] a g i) (aK i c fun d j k=>bM (Builtin.append_ #[30,30] 30 #[av d j k,a]) (aJ i #[ac 4] 26) fun a d j k=>bj k c (av a d j) fun a=>bm b f [e] a g i)) (aE a fun b=>ay i (b.add 3) fun b=>aE a fun d=>bj i (d.add 3) (ac (aI (b+1))) fun b=>aE a fun d=>aK b (d.add 5) fun f g i=>ay b e fun j=>ay b (aN n.size 1) fun k=>ay b (aN n.size 2) fun l=>ay b (aN n.size 3) fun m=>ay b (aN n.size 4) fun n=>aK b c fun c o p=>ax (aJ b #[ac j,ac k,ac l,ac m,ac n,av c o p] 170) fun c=>((aq c (d.add 5)=some (av f g i)∧True)∧True)∧bM (Builtin.append_ #[162,162] 162 #[av f g i,av (some (aL b.size)) 1 1]) c fun b c d f=>True∧aE a fun a=>bj f (a.add 5) (av b c d) fun a=>True∧ay a e fun b=>Q (aA b 0) a))∧ax (aJ c #[d,d,d,d,d,m] 170) fun n=>((aq n e=l∧True)∧True)∧aC 227 #[f] n fun n o=>((aq o e=l∧True)∧True)∧aC 226 #[f] o fun f o=>((aq o e=l∧True)∧True)∧ax (aL c.size) fun e=>bj o e (ac n) fun l=>bj l (aN c.size 1) i fun i=>bj i (aN c.size 2) (ac f) fun f=>bj f (aN c.size 3) g fun f=>bj f (aN c.size 4) b fun b=>ax (aN c.size 5) fun f=>bj b f m fun b=>True∧bX [d] b fun b g i l m=>ah (aX m j) (ax (av (some (aL l.size)) 1 1) fun a=>ax (ac (aI (m+1))) fun c=>ah (k == 1) (aK l f fun e j k=>bM (Builtin.append_ #[30,30] 30 #[av e j k,a]) (aJ l #[d] 26) fun a d e j=>bj j f (av a d e) fun a=>bm b g [c] a i l) (aK l f fun d e j=>bM (Builtin.append_ #[30,30] 30 #[av d e j,a]) (aJ l #[ac 4] 26) fun a d e j=>bj j f (av a d e) fun a=>bm b g [c] a i l)) (aE a fun b=>ay l (b.add 3) fun b=>aE a fun d=>bj l (d.add 3) (ac (aI (b+1))) fun b=>aE a fun d=>aK b (d.add 5) fun g i j=>ay b e fun k=>ay b (aN c.size 1) fun l=>ay b (aN c.size 2) fun m=>ay b (aN c.size 3) fun n=>ay b (aN c.size 4) fun c=>aK b f fun f o p=>ax (aJ b #[ac k,ac l,ac m,ac n,ac c,av f o p] 170) fun c=>ax (av g i j) fun f=>((aq c (d.add 5)=some f∧True)∧True)∧bM (Builtin.append_ #[162,162] 162 #[f,av (some (aL b.size)) 1 1]) c fun b c d f=>True∧aE a fun a=>bj f (a.add 5) (av b c d) fun a=>True∧ay a e fun b=>Q (aA b 0) a))))))))))):ag PP 94 #[.pointer a,ac i,ac j,ac k] Q H :=
 okL Tryz.func94 rfl (fun | 1014=>some [] | 16=>some [(11,3)] | _=>none) h
theorem MT (h:ah (cD a) (Q (ac 2) H) (aC 115 #[am a,ac i] H fun b c=>ah (aX b 0) (Q (ac 20) c) (ah (aX j 0) (Q (ac 21) c) (aE a fun d=>aK c (d.add 5) fun d e _=>bf b e d fun d=>aK c ((bc d b 6).add 5) fun _ d _=>ah (decide (j≥(d:Int))) (Q (ac 21) c) (aE a fun d=>aK c (d.add 5) fun d e _=>bf b e d fun d=>ay c ((bc d b 6).add 1) fun d=>bk 230 #[ac k,ac d] c fun c d=>ah (!c) (Q (ac 10) d) (aE a fun a=>aK d (a.add 5) fun a c _=>bf b c a fun a=>aK d ((bc a b 6).add 5) fun a b _=>bf j b a fun a=>bj d (bc a j 1) (ac k) fun a=>Q (ac 0) a)))))):ag PP 98 #[.pointer a,ac i,ac j,ac k] Q H :=
 okF Tryz.func98 rfl h
theorem NW (h:ah (cD a) (Q (ac 2) H) (aE a fun b=>aF H b fun b=>ak 52 #[am b,ac i] H fun _ b c=>ah (b != 0) (Q (ac b) c) (aE a fun a=>bj c (a.add 1) (ac i) fun a=>Q (ac 0) a))):ag PP 99 #[.pointer a,ac i] Q H :=
 okF Tryz.func99 rfl h
theorem EN (h:ah (cD a) (Q (ac 2) H) (bX [ac 0] H fun c d e f g=>ah (aX g (l:Int)) (bf g l b fun a=>ay f (bc a g 1) fun a=>aC 225 #[ac a] f fun a b=>ah (a == 0) (Q (ac 10) b) (bm c d [ac (aI (g+1))] b e f)) (aE a fun c=>aK f (c.add 2) fun _ c _=>ah (bP (aI ((c:Int)+(l:Int))) 65536) (Q (ac 22) f) (aE a fun c=>aK f (c.add 2) fun c d e=>bM (Builtin.append_ #[30,30] 30 #[av c d e,av b l o]) f fun b c d e=>aE a fun a=>bj e (a.add 2) (av b c d) fun a=>Q (ac 0) a)))):ag PP 104 #[.pointer a,.slice b l o] Q H :=
 okL Tryz.func104 rfl (fun | 4=>some [(5,3)] | _=>none) h
theorem EV (h:ax (av a l o) fun a=>ah (i == 0) (Q a H) (bk 114 #[a,ac i] H fun b c=>ah b (Q a c) (bM (Builtin.append_ #[25,25] 25 #[a,av (some (aL c.size)) 1 1]) (aJ c #[ac i] 3) fun a b c d=>Q (av a b c) d))):ag PP 111 #[.slice a l o,ac i] Q H :=
 okF Tryz.func111 rfl h
theorem Ik (h:ak 245 #[ac i] H fun b c d=>ah (c != 0) (Q (ac 0) d) (ak 52 #[am a,ac b] d fun _ a c=>ah (a != 0) (Q (ac 0) c) (Q (ac b) c))):ag PP 112 #[.pointer a,ac i] Q H :=
 okF Tryz.func112 rfl h
theorem Dg (h:ah (cD a) (Q (av none 0 0) H) (cL [av none 0 0,ac 1] H fun b c d e f g i j=>aE a fun k=>aK e (k.add 5) fun _ k _=>ax (av f g i) fun f=>ah (aX (g:Int) (k:Int)) (aC 115 #[am a,ac j] e fun a g=>ah (decide (a≥0)) (bM (Builtin.append_ #[25,25] 25 #[f,av (some (aL g.size)) 1 1]) (aJ g #[ac j] 3) fun a f g i=>bm b c [av a f g,ac (aI (j+1))] i d e) (bm b c [f,ac (aI (j+1))] g d e)) (Q f e))):ag PP 113 #[.pointer a] Q H :=
 okL Tryz.func113 rfl (fun | 5=>some [(3,25),(4,3)] | _=>none) h
theorem Fn (h:bX [ac 0] H fun b c d e f=>ah (aX f (l:Int)) (bf f l a fun a=>ay e (bc a f 1) fun a=>ah (a == i) (Q (aP true) e) (bm b c [ac (aI (f+1))] e d e)) (Q (aP false) e)):ag PP 114 #[.slice a l o,ac i] Q H :=
 okL Tryz.func114 rfl (fun | 2=>some [(5,3)] | _=>none) h
theorem FK (h:bX [ac 0] H fun b c d e f=>aE a fun g=>aK e (g.add 5) fun _ g _=>ah (aX f (g:Int)) (aE a fun a=>aK e (a.add 5) fun a g _=>bf f g a fun a=>ay e (bc a f 6) fun a=>ah (a == i) (Q (ac f) e) (bm b c [ac (aI (f+1))] e d e)) (Q (ac (-1)) e)):ag PP 115 #[.pointer a,ac i] Q H :=
 okL Tryz.func115 rfl (fun | 2=>some [(5,3)] | _=>none) h
theorem I0 (h:ah (j == 1) (Q (ac (aI (2+aI (Int.tdiv (aI (i+3)) 4)))) H) (Q (ac (aI (2+i))) H)):ag PP 122 #[ac i,ac j] Q H :=
 okF Tryz.func122 rfl h
theorem DY (h:ax (bJ #[am none,ac 1]) fun a=>ah (aX i 0) (Q a H) (ah (bP i 1048576) (Q a H) (ah (aX j 0) (Q a H) (ah (bP j 65536) (Q a H) (Q (bJ #[am (some (aL H.size)),ac 0]) (aJ H #[ac i,ac j,ac 0,ac 0,ac 0,av none 0 0] 164)))))):ag PP 224 #[ac i,ac j] Q H :=
 okF Tryz.func224 rfl h
theorem GF (h:aE a fun b=>aK H (b.add 5) fun _ b _=>ax (ac 0) fun c=>ah ((b:Int) == 0) (Q c H) (aE a fun b=>aK H (b.add 5) fun d e f=>aE a fun a=>aK H (a.add 5) fun g i j=>ax (aI ((i:Int)-1)) fun k=>bf k e d fun l=>ax (bc l k 6) fun k=>ay H k fun l=>ay H (k.add 1) fun m=>ay H (k.add 2) fun n=>ay H (k.add 3) fun o=>ay H (k.add 4) fun p=>aK H (k.add 5) fun q r s=>ax (aJ H #[c,c,c,c,c,av none 0 0] 170) fun c=>((aq c k=some (ac l)∧aq c (k.add 1)=some (ac m)∧aq c (k.add 2)=some (ac n)∧aq c (k.add 3)=some (ac o)∧aq c (k.add 4)=some (ac p)∧aq c (k.add 5)=some (av q r s)∧True)∧(aq c (a.add 5)=some (av g i j)∧True)∧(aq c (b.add 5)=some (av d e f)∧True)∧True)∧bj c (aL H.size) (ac l) fun a=>bj a (aN H.size 1) (ac m) fun a=>ax (aN H.size 2) fun b=>bj a b (ac n) fun a=>bj a (aN H.size 3) (ac o) fun a=>bj a (aN H.size 4) (ac p) fun a=>bj a (aN H.size 5) (av q r s) fun a=>True∧ay a b fun c=>aK a (aN H.size 5) fun _ d _=>ay a (aN H.size 1) fun e=>aC 122 #[ac (d:Int),ac e] a fun a d=>((aq d b=some (ac c)∧True)∧True)∧Q (ac (aI (c+a))) d)):ag PP 226 #[.pointer a] Q H :=
 okF Tryz.func226 rfl h
theorem GP (h:bX [ac 1] H fun b c d e f=>aC 115 #[am a,ac f] e fun a g=>ah (decide (a≥0)) (bm b c [ac (aI (f+1))] g d e) (Q (ac f) g)):ag PP 227 #[.pointer a] Q H :=
 okL Tryz.func227 rfl (fun | 2=>some [(3,3)] | _=>none) h
theorem KK (h:ah (j == 1) (ah (decide (i≥0)) (Q (aP (decide (i<=255))) H) (Q (aP false) H)) (aC 225 #[ac i] H fun a b=>Q (aP (a != 0)) b)):ag PP 230 #[ac i,ac j] Q H :=
 okF Tryz.func230 rfl h
theorem EH (h:ah (cD a) (Q (ac 2) H) (aE a fun b=>aF H b fun b=>aE a fun a=>ay H (a.add 1) fun a=>aC 98 #[am b,ac a,ac i,ac j] H fun a b=>True∧Q (ac a) b)):ag PP 242 #[.pointer a,ac i,ac j] Q H :=
 okF Tryz.func242 rfl h
theorem HK (h:ah (cD a) (Q (aA 0 2) H) (aE a fun b=>aF H b fun b=>ak 94 #[am b,ac i,ac j,ac k] H fun b c d=>ax (aA (aI (4*b)) c) fun b=>ah (c != 23) (Q b d) (aE a fun c=>C6 d (c.add 3) fun c=>ah c (Q b d) (aE a fun b=>aF d b fun c=>cq 51 #[am a] d fun d e f g=>((aq g b=some (am c)∧True)∧True)∧bW 335 #[am c,av d e f] g fun _ _ _ b=>True∧aE a fun a=>aF b a fun a=>ak 94 #[am a,ac i,ac j,ac k] b fun a b c=>Q (aA (aI (4*a)) b) c)))):ag PP 266 #[.pointer a,ac i,ac j,ac k] Q H :=
 okF Tryz.func266 rfl h
theorem HX (h:dM 50 #[am a,av b l o] H fun b c d e f=>ah (e != 0) (Q (bJ #[ac 0,ac 0,ac e]) f) (bW 368 #[am a,av b c d] f fun a b c d=>Q (bJ #[ac a,ac b,ac c]) d)):ag PP 335 #[.pointer a,.slice b l o] Q H :=
 okF Tryz.func335 rfl h
theorem Lq (h:ax (ac 0) fun c=>ah (cD a) (Q (bJ #[c,c,ac 2]) H) (bX [c] H fun d e f g i=>ah (aX i (l:Int)) (bf i l b fun b=>ay g (bc b i 1) fun b=>aC 115 #[am a,ac b] g fun a b=>ah (aX a 0) (Q (bJ #[c,c,ac 20]) b) (bm d e [ac (aI (i+1))] b f g)) (aE a fun d=>aK g (d.add 5) fun _ d _=>aC 226 #[am a] g fun e f=>A8 [c,av none 0 0,c] f fun f g i j k m n p q=>aE a fun r=>aK j (r.add 5) fun _ r _=>ax (av m n p) fun m=>ah (aX q (r:Int)) (aE a fun a=>aK j (a.add 5) fun a d _=>bf q d a fun a=>ax (bc a q 6) fun a=>ay j a fun d=>ay j (a.add 1) fun e=>ay j (a.add 2) fun n=>ay j (a.add 3) fun p=>ay j (a.add 4) fun r=>aK j (a.add 5) fun a s t=>ax (aL j.size) fun u=>bj (aJ j #[c,c,c,c,c,av none 0 0] 170) u (ac d) fun c=>ax (aN j.size 1) fun d=>bj c d (ac e) fun c=>ax (aN j.size 2) fun e=>bj c e (ac n) fun c=>bj c (aN j.size 3) (ac p) fun c=>bj c (aN j.size 4) (ac r) fun c=>ax (aN j.size 5) fun n=>bj c n (av a s t) fun a=>ay a u fun c=>bk 390 #[av b l o,ac c] a fun a b=>ax (ac (aI (q+1))) fun c=>ah a (bj b e (ac k) fun a=>aK a n fun _ b _=>ay a d fun l=>aC 122 #[ac (b:Int),ac l] a fun a b=>ay b u fun l=>ay b d fun d=>ay b e fun e=>ay b (aN j.size 3) fun o=>ay b (aN j.size 4) fun p=>aK b n fun n q r=>bM (Builtin.append_ #[162,162] 162 #[m,av (some (aL b.size)) 1 1]) (aJ b #[ac l,ac d,ac e,ac o,ac p,av n q r] 170) fun b d e l=>bm f g [ac (aI (k+a)),av b d e,c] l i j) (bm f g [ac k,m,c] b i j)) (aE a fun b=>bj j (b.add 5) m fun b=>aE a fun f=>ay b (f.add 4) fun f=>aE a fun a=>bj b (a.add 4) (ac (aI (f+1))) fun a=>Q (bJ #[ac (aI ((d:Int)-(n:Int))),ac (aI (e-k)),c]) a)))):ag PP 368 #[.pointer a,.slice b l o] Q H :=
 okL Tryz.func368 rfl (fun | 4=>some [(7,3)] | 13=>some [(10,3),(11,162),(12,3)] | _=>none) h
theorem E9 (h:bX [ac 0] H fun b c d e f=>ah (aX f (l:Int)) (bf f l a fun a=>ay e (bc a f 1) fun a=>ah (a == i) (Q (aP true) e) (bm b c [ac (aI (f+1))] e d e)) (Q (aP false) e)):ag PP 390 #[.slice a l o,ac i] Q H :=
 okL Tryz.func390 rfl (fun | 2=>some [(5,3)] | _=>none) h
end
def gi:wX RO:=fun H ys o F=>∃ a l c,ys=[ac o.oop,ac o.fmt,ac o.place,ac o.born,ac o.cls,.slice a l c]∧bZ 1 H a l c (az o.slots) F
theorem gi.frR:LF gi:=fun _ _ _ _ _ ⟨a,l,c,h1,h2⟩ he=>⟨a,l,c,h1,h2.keep he⟩
theorem gi.ltR:Mn gi:=fun _ _ _ _ ⟨_,_,_,_,h2⟩=>h2.lt
def eJ (H:au) (b:Nat) (F:aS) (r:RH):Prop:=∃ a l c F',F=b :: F'∧b∉F'∧bI H b #[ac r.words,ac r.oops,ac r.mark,ac r.born,ac r.turn,.slice a l c]∧gb 6 gi H a l c r.objs F'∧WFH r
theorem eJ.wf {H:au}{b:Nat}{F:aS}{r:RH} (h:eJ H b F r):WFH r:=by obtain ⟨_,_,_,_,_,_,_,_,h⟩:=h;exact h
theorem eJ.lt {H:au}{b:Nat}{F:aS}{r:RH} (h:eJ H b F r):∀ x∈F,x<H.size:=by
 obtain ⟨a,l,c,F',rfl,_,hB,hL,_⟩:=h;intro x hx;rcases a0E.1 hx with rfl | hx
 ·exact hB.lt
 ·exact hL.lt gi.ltR x hx
theorem eJ.keep {H H':au}{b:Nat}{F:aS}{r:RH} (h:eJ H b F r) (he:∀ x∈F,H'[x]?=H[x]?):eJ H' b F r:=by
 obtain ⟨a,l,c,F',rfl,hn,hB,hL,hw⟩:=h;exact ⟨a,l,c,F',rfl,hn,hB.of_eq (he b (by simp)),hL.keep gi.frR fun x hx=>he x (by simp [hx]),hw⟩
theorem eJ.fr {H H':au}{b:Nat}{F G:aS}{r:RH} (h:eJ H b F r) (hf:Fr G H H') (hd:bU F G):eJ H' b F r :=
 h.keep fun x hx=>hf.2 x (h.lt x hx) (hd x hx)
section
variable {H:au}{b:Nat}{F F':aS}{r:RH}{a:Option Addr}{l c:Nat}{Q:QT}
theorem lU {objs:List RO} (hL:gb 6 gi H a l c objs F'){i:Nat} (hi:i<objs.length) :
  ∃ ob sa sl sc G,a=some ⟨ob,0,none⟩∧aq H ⟨ob,i*6,none⟩=some (ac objs[i].oop)∧aq H ⟨ob,i*6+1,none⟩=some (ac objs[i].fmt)∧aq H ⟨ob,i*6+2,none⟩=some (ac objs[i].place) ∧
   aq H ⟨ob,i*6+3,none⟩=some (ac objs[i].born)∧aq H ⟨ob,i*6+4,none⟩=some (ac objs[i].cls)∧aq H ⟨ob,i*6+5,none⟩=some (.slice sa sl sc)∧bZ 1 H sa sl sc (az objs[i].slots) G∧(∀ x∈G,x∈F')∧sl=objs[i].slots.length:=by
 obtain ⟨p,ys,G,e1,e2,e3,e4,e5,⟨sa,sl,sc,e6,e7⟩,e8⟩:=hL.get hi;obtain ⟨pb,po,ps⟩:=p;simp only at e2 e3;subst e2;subst e3;subst e6;refine ⟨pb,sa,sl,sc,G,e1,e4 0 (by decide),e4 1 (by decide),e4 2 (by decide),e4 3 (by decide),e4 4 (by decide),e4 5 (by decide),e7,e8,?_⟩
 have:=e7.len;simp only [az,a1p] at this;omega
theorem lQ {n f:Int} (h0:0<=n) (h1:n<=1000000000) (h:Q (ac (lenOf n f)) H):ag PP 122 #[ac n,ac f] Q H:=by
 apply I0;dsimp only [ah,ac,aI];simp only [ae,a0P,a0f,a0l,a0L,bh,aV,bx,bA,bi,bB,bt,aW,bv,bu,bg,bz,a06,a1a,a1d,aB,a0K,a0y,aM,aG,aY,a0p,a0C,bq,bn];unfold lenOf at h;split
 ·rename_i hf;rw [a0b hf] at h;rw [ao (n:=n+3) (by omega) (by omega),lM,a0b (by omega),ao (n:=(n+3) / 4) (by omega) (by omega),ao (by omega) (by omega)];exact h
 ·rename_i hf;rw [a0a hf] at h;rw [ao (by omega) (by omega)];exact h
theorem NE {w f:Int} (h:Q (.bool (decide (fv f w))) H):ag PP 230 #[ac w,ac f] Q H:=by
 apply KK;dsimp only [aP,aC,ah,ac];have fin:∀ b:Bool,b=decide (fv f w)->Q (.bool b) H:=fun b hb=>hb ▸ h;simp only [ae,a0P,a0f,a0l,a0L,bh,aV,bx,bA,bi,bB,bt,aW,bv,bu,bg,bz,a06,a1a,a1d,aB,a0K,a0y,aM,aG,aY,a0p,a0C,bq,bn];split
 ·rename_i hf;split
  ·exact fin _ (by simp [fv,hf];omega)
  ·exact fin _ (by simp [fv,hf];omega)
 ·rename_i hf;refine gn ?_;simp only [ae,a0P,a0f,a0l,a0L,bh,aV,bx,bA,bi,bB,bt,aW,bv,bu,bg,bz,a06,a1a,a1d,aB,a0K,a0y,aM,aG,aY,a0p,a0C,bq,bn];exact fin _ (by simp [fv,hf,dL])
theorem kB (hR:eJ H b F r){k:Int} (h1:aT r.objs k=none->Q (ac (-1)) H) (h2:∀ (n:Nat) (hn:n<r.objs.length),aT r.objs k=some r.objs[n]->Q (ac n) H):ag PP 115 #[QW b,ac k] Q H:=by
 have w6:=hR;obtain ⟨a,l,c,F',rfl,hn,hB,hL,hw⟩:=hR;have QR:=hL.len;apply FK;dsimp only [ah,aX,ay,aK,bc,ac,bf,bX,bm,aE,aI];have JB:=hB.cell 5;have Sc:=fH hw.objs;have Tn:=cJ hw.objs hw.w0;have JY:=hw.w1;refine ⟨fun w H'=>H'=H∧∃ n:Nat,w=[ac n]∧n<=r.objs.length∧∀ j (hj:j<r.objs.length),j<n->r.objs[j].oop≠k,fun w _=>match w with
  | [.int _ i]=>(r.objs.length-i).toNat
  | _=>0,⟨rfl,0,rfl,a07 _,fun j hj h=>by omega⟩,?_⟩
 rintro w H1 ⟨rfl,n,rfl,Sb,Oc⟩ _;refine ⟨n,rfl,?_⟩;simp only [ae,a0P,a0f,a0l,a0L,bh,aV,bx,bA,bi,bB,bt,aW,bv,bu,bg,bz,a06,a1a,a1d,aB,a0K,a0y,aM,aG,aY,a0p,a0C,bq,bn,JB,a1w,a2q,a2r,a1D,a1b,a1s,a1O,a1y,a1C];split
 ·rename_i an;have b9:n<r.objs.length:=by omega
  obtain ⟨ob,sa,sl,sc,G,rfl,g0,g1,g2,g3,g4,g5,g6,g7,g8⟩:=lU hL b9;simp only [ae,a0P,a0f,a0l,a0L,bh,aV,bx,bA,bi,bB,bt,aW,bv,bu,bg,bz,a06,a1a,a1d,aB,a0K,a0y,aM,aG,aY,a0p,a0C,bq,bn,a0j,g0];refine ⟨by omega,an,?_⟩;split
  ·rename_i he;refine h2 n b9 ?_;rw [←he];exact cN hw.objs (a04 b9)
  ·rename_i he;have e:IntKind.wrap .i64 ((n:Int)+1)=((n+1:Nat):Int):=by rw [ao (by omega) (by omega)];omega
   rw [e];refine ⟨⟨n+1,rfl,by omega,fun j hj JD=>?_⟩,by simp;omega⟩;by_cases Zt:j=n
   ·subst Zt;exact he
   ·exact Oc j hj (by omega)
 ·rename_i an;refine h1 (eB.2 fun o ho=>?_);obtain ⟨j,hj,rfl⟩:=a2O ho;exact Oc j hj (by omega)
theorem lF (hR:eJ H b F r){k:Int} (h:Q (wK (r.clsAt k)) H):ag PP 52 #[QW b,ac k] Q H:=by
 have w6:=hR;obtain ⟨a,l,c,F',rfl,hn,hB,hL,hw⟩:=hR;have QR:=hL.len;have JB:=hB.cell 5;apply My;dsimp only [aA,aC,ah,aX,ay,aK,bc,ac,bf,aE,cD,am];unfold RH.clsAt at h;simp only [ae,a0P,a0f,a0l,a0L,bh,aV,bx,bA,bi,bB,bt,aW,bv,bu,bg,bz,a06,a1a,a1d,aB,a0K,a0y,aM,aG,aY,a0p,a0C,bq,bn,JB,a1w,a2q,a2r,a1D,a1b,a1s,a1O,a1y,a1C];refine kB w6 (fun Db=>?_) fun n an ho=>?_
 ·rw [Db] at h;exact ⟨_,rfl,by simpa using h⟩
 ·rw [ho] at h;obtain ⟨ob,sa,sl,sc,G,rfl,g0,g1,g2,g3,g4,g5,g6,g7,g8⟩:=lU hL an;simp only [ae,a0P,a0f,a0l,a0L,bh,aV,bx,bA,bi,bB,bt,aW,bv,bu,bg,bz,a06,a1a,a1d,aB,a0K,a0y,aM,aG,aY,a0p,a0C,bq,bn,a0j,g4,JB,a1w,a2q,a2r,a1D,a1b,a1s,a1O,a1y,a1C];rw [a0a (by omega)];exact ⟨by omega,by omega,h⟩
theorem lX (hR:eJ H b F r){k:Int} (h:Q (nM (r.size k)) H):ag PP 53 #[QW b,ac k] Q H:=by
 have w6:=hR;obtain ⟨a,l,c,F',rfl,hn,hB,hL,hw⟩:=hR;have QR:=hL.len;have JB:=hB.cell 5;apply Nk;dsimp only [aC,ah,aX,ay,aK,bc,ac,bf,aE,cD,am,ax,bJ];unfold RH.size at h;simp only [ae,a0P,a0f,a0l,a0L,bh,aV,bx,bA,bi,bB,bt,aW,bv,bu,bg,bz,a06,a1a,a1d,aB,a0K,a0y,aM,aG,aY,a0p,a0C,bq,bn];refine kB w6 (fun Db=>?_) fun n an ho=>?_
 ·rw [Db] at h;exact ⟨_,rfl,by simpa using h⟩
 ·rw [ho] at h;obtain ⟨ob,sa,sl,sc,G,rfl,g0,g1,g2,g3,g4,g5,g6,g7,g8⟩:=lU hL an;simp only [ae,a0P,a0f,a0l,a0L,bh,aV,bx,bA,bi,bB,bt,aW,bv,bu,bg,bz,a06,a1a,a1d,aB,a0K,a0y,aM,aG,aY,a0p,a0C,bq,bn,a0j,g1,g5,JB,a1w,a2q,a2r,a1D,a1b,a1s,a1O,a1y,a1C];rw [a0a (by omega)];refine ⟨by omega,by omega,by omega,by omega,?_⟩;rw [g8];exact h
theorem yn (hR:eJ H b F r){k i:Int} (h:Q (wK (r.at k i)) H):ag PP 56 #[QW b,ac k,ac i] Q H:=by
 have w6:=hR;obtain ⟨a,l,c,F',rfl,hn,hB,hL,hw⟩:=hR;have QR:=hL.len;have JB:=hB.cell 5;apply LS;dsimp only [aA,aC,ah,aX,ay,aK,bc,ac,bf,aE,cD,am];unfold RH.at at h;simp only [ae,a0P,a0f,a0l,a0L,bh,aV,bx,bA,bi,bB,bt,aW,bv,bu,bg,bz,a06,a1a,a1d,aB,a0K,a0y,aM,aG,aY,a0p,a0C,bq,bn];refine kB w6 (fun Db=>?_) fun n an ho=>?_
 ·rw [Db] at h;exact ⟨_,rfl,by simpa using h⟩
 ·rw [ho] at h;obtain ⟨ob,sa,sl,sc,G,rfl,g0,g1,g2,g3,g4,g5,g6,g7,g8⟩:=lU hL an;simp only [ae,a0P,a0f,a0l,a0L,bh,aV,bx,bA,bi,bB,bt,aW,bv,bu,bg,bz,a06,a1a,a1d,aB,a0K,a0y,aM,aG,aY,a0p,a0C,bq,bn,a0j,g5,JB,a1w,a2q,a2r,a1D,a1b,a1s,a1O,a1y,a1C];rw [a0a (by omega)];simp only at h;split
  ·rename_i hi;rw [a0b (.inl hi)] at h;exact h
  ·rename_i hi;refine ⟨by omega,by omega,?_⟩;split
   ·rename_i Sv;rw [a0b (by omega)] at h;exact h
   ·rename_i Sv;rw [a0a (by omega)] at h;obtain ⟨p,rfl,aj,be⟩:=g6.rd.int (i:=i) (by omega) (by omega);simp only [ae,a0P,a0f,a0l,a0L,bh,aV,bx,bA,bi,bB,bt,aW,bv,bu,bg,bz,a06,a1a,a1d,aB,a0K,a0y,aM,aG,aY,a0p,a0C,bq,bn,aj];exact ⟨by omega,by omega,by omega,by omega,h⟩
theorem sF (hR:eJ H b F r) (h:Q (ac r.mark) H):ag PP 61 #[QW b] Q H:=by
 obtain ⟨a,l,c,F',rfl,hn,hB,hL,hw⟩:=hR;have hc:=hB.cell 2;apply MI;dsimp only [ah,ay,ac,aE,cD];simp only [ae,a0P,a0f,a0l,a0L,bh,aV,bx,bA,bi,bB,bt,aW,bv,bu,bg,bz,a06,a1a,a1d,aB,a0K,a0y,aM,aG,aY,a0p,a0C,bq,bn,hc,a1w,a2q,a2r,a1D,a1b,a1s,a1O,a1y,a1C];exact h
theorem vi (hR:eJ H b F r){k:Int} (h:∀ H',eJ H' b F (r.marks k).2->Fr F H H'->Q (ac (r.marks k).1) H'):ag PP 46 #[QW b,ac k] Q H:=by
 have w6:=hR;obtain ⟨a,l,c,F',rfl,hn,hB,hL,hw⟩:=hR;apply Mg;dsimp only [ah,bP,aX,ac,aE,cD,bj];unfold RH.marks at h;simp only [ae,a0P,a0f,a0l,a0L,bh,aV,bx,bA,bi,bB,bt,aW,bv,bu,bg,bz,a06,a1a,a1d,aB,a0K,a0y,aM,aG,aY,a0p,a0C,bq,bn];split
 ·rw [a0a (by omega)] at h;exact h H w6 (Fr.refl _ _)
 split
 ·rw [a0a (by omega)] at h;exact h H w6 (Fr.refl _ _)
 ·rw [a0b (by omega)] at h;refine ⟨hB.wr (by simp),h _ ⟨a,l,c,F',rfl,hn,hB.set 2 (ac k),hL.keep gi.frR fun x hx=>cP (fun e=>hn (by simp only at e;subst e;exact hx)),{ hw with m0:=by simp;omega,m1:=by simp;omega }⟩ (Fr.set (by simp))⟩
theorem qK (hR:eJ H b F r) (h:∀ H',Fr [] H H'->Q (ac (bT r.objs)) H'):ag PP 226 #[QW b] Q H:=by
 have w6:=hR;obtain ⟨a,l,c,F',rfl,hn,hB,hL,hw⟩:=hR;have QR:=hL.len;have JB:=hB.cell 5;have Sc:=fH hw.objs;have Tn:=cJ hw.objs hw.w0;have JY:=hw.w1;apply GF;dsimp only [aL,aN,aC,ah,ay,aK,bc,ac,bf,av,aE,aJ,ax,bj,aI];simp only [ae,a0P,a0f,a0l,a0L,bh,aV,bx,bA,bi,bB,bt,aW,bv,bu,bg,bz,a06,a1a,a1d,aB,a0K,a0y,aM,aG,aY,a0p,a0C,bq,bn,JB,a1w,a2q,a2r,a1D,a1b,a1s,a1O,a1y,a1C];split
 ·rename_i h0
  have:r.objs=[]:=a1o (by omega);rw [this] at h;exact h H (Fr.refl _ _)
 ·rename_i h0;rcases a2G r.objs with he | ⟨m,x,he⟩
  ·rw [he] at QR;simp at QR;omega
  simp only [a2P] at he;have TN:r.objs.length=m.length+1:=by rw [he];simp
  have hi:m.length<r.objs.length:=by omega
  obtain ⟨ob,sa,sl,sc,G,rfl,g0,g1,g2,g3,g4,g5,g6,g7,g8⟩:=lU hL hi;have hx:r.objs[m.length]=x:=by simp [he]
  rw [hx] at g0 g1 g2 g3 g4 g6 g8;have e1:IntKind.wrap .i64 ((l:Int)-1)=(m.length:Int):=by rw [ao (by omega) (by omega)];omega
  have hxm:x∈r.objs:=by rw [he];simp
  have hg:=hw.objs.good x hxm;have Jp:=hg.many;have JG:=hg.pl;have Ja:=hg.fits;have Zp:=x.len_pos;have OQ:ob<H.size:=by
   have h3:=hL.lt gi.ltR;obtain ⟨xs,F1,F2,k1,k2,k3,k4,k5⟩:=hL;rcases k1.2.2 with ⟨ka,_⟩ | ⟨b',cs,ka,kb,kc,_⟩
   ·cases ka
   ·cases ka;exact kc.lt
  have hpo:∀ o i,aq (H.push o) ⟨ob,i,none⟩=aq H ⟨ob,i,none⟩:=fun o i=>eD OQ;have Zz:∀ o i,aq (H.push o) ⟨b,i,none⟩=aq H ⟨b,i,none⟩:=fun o i=>eD hB.lt;simp only [ae,a0P,a0f,a0l,a0L,bh,aV,bx,bA,bi,bB,bt,aW,bv,bu,bg,bz,a06,a1a,a1d,aB,a0K,a0y,aM,aG,aY,a0p,a0C,bq,bn,e1,a0j,hpo,Zz,g0,g1,g2,g3,g4,g5,JB,a1w,a2q,a2r,a1D,a1b,a1s,a1O,a1y,a1C];refine ⟨by omega,by omega,by decide,by decide,by decide,by decide,by decide,by decide,?_⟩;rw [g8];refine lQ (by omega) (by omega) ?_;have e2:IntKind.wrap .i64 (x.place+lenOf (x.slots.length:Int) x.fmt)=x.place+x.len:=ao (by unfold RO.len at *;omega) (by unfold RO.len at *;omega);simp only [ae,a0P,a0f,a0l,a0L,bh,aV,bx,bA,bi,bB,bt,aW,bv,bu,bg,bz,a06,a1a,a1d,aB,a0K,a0y,aM,aG,aY,a0p,a0C,bq,bn,a1w,a2q,a2r,a1D,a1b,a1s,a1O,a1y,a1C];rw [e2];have h':∀ H',Fr [] H H'->Q (ac (x.place+x.len)) H':=by rw [he,eS] at h;exact h
  exact h' _ (Fr.push _ _ _)
theorem z7 (l:List Int) (i:Nat) (w:Int):(az l).set i (ac w)=az (l.set i w):=by simp [az,List.map_set]
theorem yV {a:Option Addr}{l c:Nat}{xs:List Int}{G:aS} (h:bZ 1 H a l c (az xs) G){i:Int} (h0:0<=i) (h1:i<xs.length) (w:Int) :
  ∃ sb,a=some ⟨sb,0,none⟩∧G=[sb]∧Wr H ⟨sb,i.toNat,none⟩∧bZ 1 (aQ H ⟨sb,i.toNat,none⟩ (ac w)) a l c (az (xs.set i.toNat w)) G:=by
 have hl:=h.len;simp only [az,a1p] at hl;rcases h.2.2 with ⟨_,hc,_⟩ | ⟨sb,cs,rfl,rfl,hb,hcs,lj⟩
 ·have:=h.2.1;omega
 ·have HS:=h.2.1;refine ⟨sb,rfl,rfl,hb.wr (by omega),⟨by simp [az,hl],HS,.inr ⟨sb,_,rfl,rfl,hb.set i.toNat (ac w),by simpa using hcs,?_⟩⟩⟩;rw [Array.toList_setIfInBounds,List.take_set,lj,z7]
theorem tZ (hR:eJ H b F r){k i w:Int} (h:∀ H',eJ H' b F (r.put k i w).2->Fr F H H'->Q (ac (r.put k i w).1) H'):ag PP 98 #[QW b,ac k,ac i,ac w] Q H:=by
 have w6:=hR;obtain ⟨a,l,c,F',rfl,hn,hB,hL,hw⟩:=hR;have QR:=hL.len;have JB:=hB.cell 5;have pe:=kW hw k i w;apply MT;dsimp only [bk,aC,ah,aX,ay,aK,bc,ac,bf,aE,cD,am,bj];unfold RH.put at h pe;simp only [ae,a0P,a0f,a0l,a0L,bh,aV,bx,bA,bi,bB,bt,aW,bv,bu,bg,bz,a06,a1a,a1d,aB,a0K,a0y,aM,aG,aY,a0p,a0C,bq,bn];refine kB w6 (fun Db=>?_) fun n an ho=>?_
 ·simp only [Db] at h;exact ⟨_,rfl,by simpa using h H w6 (Fr.refl _ _)⟩
 ·simp only [ho] at h pe;obtain ⟨ob,sa,sl,sc,G,rfl,g0,g1,g2,g3,g4,g5,g6,g7,g8⟩:=lU hL an;simp only [ae,a0P,a0f,a0l,a0L,bh,aV,bx,bA,bi,bB,bt,aW,bv,bu,bg,bz,a06,a1a,a1d,aB,a0K,a0y,aM,aG,aY,a0p,a0C,bq,bn,a0j,g1,g5,JB,a1w,a2q,a2r,a1D,a1b,a1s,a1O,a1y,a1C];rw [a0a (by omega)];split
  ·rename_i hi;simp only [hi,true_or,if_true] at h;exact h H w6 (Fr.refl _ _)
  ·rename_i hi;refine ⟨by omega,by omega,?_⟩;split
   ·rename_i Sv;have hi3:(r.objs[n].slots.length:Int)<=i:=by omega
    simp only [hi3,or_true,if_true] at h;exact h H w6 (Fr.refl _ _)
   ·rename_i Sv;have hi3:¬ (i<0∨(r.objs[n].slots.length:Int)<=i):=by omega
    simp only [hi3,if_false] at h pe;refine ⟨by omega,by omega,NE ?_⟩;by_cases JE:fv r.objs[n].fmt w
    ·simp only [JE,not_true_eq_false,if_false] at h pe;simp only [ae,a0P,a0f,a0l,a0L,bh,aV,bx,bA,bi,bB,bt,aW,bv,bu,bg,bz,a06,a1a,a1d,aB,a0K,a0y,aM,aG,aY,a0p,a0C,bq,bn,JE,decide_true,g5,JB,a1w,a2q,a2r,a1D,a1b,a1s,a1O,a1y,a1C];obtain ⟨p,ys,G',e1,e2,e3,e4,e5,⟨sa',sl',sc',e6,e7⟩,e8,e9⟩:=hL.updIn gi.frR gi.ltR an;obtain ⟨pb,po,ps⟩:=p;simp only at e2 e3;subst e2;subst e3;subst e6;cases e1;have Jl:=(e4 5 (by decide)).symm.trans g5;simp only [a1y,a1C,Option.some.injEq,Value.slice.injEq] at Jl;obtain ⟨rfl,rfl,rfl⟩:=Jl;obtain ⟨sb,rfl,rfl,Vz,fb⟩:=yV e7 (i:=i) (by omega) (by omega) w;simp only [ae,a0P,a0f,a0l,a0L,bh,aV,bx,bA,bi,bB,bt,aW,bv,bu,bg,bz,a06,a1a,a1d,aB,a0K,a0y,aM,aG,aY,a0p,a0C,bq,bn];refine ⟨by omega,by omega,by omega,by omega,Vz,h _ ?_ (Fr.set (by simp only [a0E];exact .inr (e8 sb (by simp))))⟩;have R1:b≠sb:=fun e=>hn (by rw [e];exact e8 sb (by simp));have Jy:k=r.objs[n].oop:=(aR ho).2.symm;refine ⟨some ⟨ob,0,none⟩,l,c,F',rfl,hn,hB.set_ne R1 _,?_,pe⟩;rw [Jy,uV hw.objs an];exact e9 _ _ ⟨_,_,_,rfl,fb⟩ fun x hx RV=>cP (by simp only [a0A] at RV;exact RV)
    ·simp only [JE,not_false_eq_true,if_true] at h;simp only [ae,a0P,a0f,a0l,a0L,bh,aV,bx,bA,bi,bB,bt,aW,bv,bu,bg,bz,a06,a1a,a1d,aB,a0K,a0y,aM,aG,aY,a0p,a0C,bq,bn,JE,decide_false];exact h H w6 (Fr.refl _ _)
theorem sW (hR:eJ H b F r) (an:(r.objs.length:Int)<r.oops) (h:Q (ac (cQ r.objs)) H):ag PP 227 #[QW b] Q H:=by
 have hw:=hR.wf;have IN:=hw.o1;have Ov:=eX hw.objs IN an;apply GP;dsimp only [aC,ah,ac,bX,bm,am,aI];refine ⟨fun w H'=>H'=H∧∃ k:Int,w=[ac k]∧1<=k∧k<=cQ r.objs,fun w _=>match w with
  | [.int _ k]=>(cQ r.objs-k).toNat
  | _=>0,⟨rfl,1,rfl,a1F _,Ov.1⟩,?_⟩
 rintro w H1 ⟨rfl,k,rfl,JC,OU⟩ _;refine ⟨k,rfl,?_⟩;simp only [ae,a0P,a0f,a0l,a0L,bh,aV,bx,bA,bi,bB,bt,aW,bv,bu,bg,bz,a06,a1a,a1d,aB,a0K,a0y,aM,aG,aY,a0p,a0C,bq,bn];refine kB hR (fun Db=>⟨_,rfl,?_⟩) fun n hn ho=>⟨_,rfl,?_⟩
 ·rw [a0a (by decide)]
  have:k=cQ r.objs:=by
   refine a0v fun hc=>?_;exact Ov.2.2.2 k JC (by omega) Db
  rw [this];exact h
 ·rw [a0b (by omega),ao (n:=k+1) (by omega) (by omega)]
  have:k≠cQ r.objs:=by rintro rfl;rw [Ov.2.2.1] at ho;cases ho
  exact ⟨rfl,⟨k+1,rfl,by omega,by omega⟩,by simp;omega⟩
theorem NZ {words oops:Int} (gw:¬ (0<=words∧words<=1048576∧0<=oops∧oops<=65536)->Q (.tuple #[.pointer none,ac 1]) H)
  (h:(0<=words∧words<=1048576∧0<=oops∧oops<=65536)->∀ H',eJ H' H.size [H.size] ⟨words,oops,0,0,0,[]⟩->Fr [] H H'->Q (.tuple #[.pointer (some ⟨H.size,0,none⟩),ac 0]) H'):ag PP 224 #[ac words,ac oops] Q H:=by
 apply DY;dsimp only [aL,ah,bP,aX,ac,av,am,aJ,ax,bJ];simp only [ae,a0P,a0f,a0l,a0L,bh,aV,bx,bA,bi,bB,bt,aW,bv,bu,bg,bz,a06,a1a,a1d,aB,a0K,a0y,aM,aG,aY,a0p,a0C,bq,bn];split
 ·exact gw (by omega)
 split
 ·exact gw (by omega)
 split
 ·exact gw (by omega)
 split
 ·exact gw (by omega)
 ·refine h (by omega) _ ⟨none,0,0,[],rfl,by simp,bI.new _ _ _,gb.nil,?_⟩ (Fr.push _ _ _);exact ⟨by simp;omega,by simp;omega,by simp;omega,by simp;omega,by simp,by simp,⟨by simp,by simp⟩⟩
theorem NH {a:Option Addr}{l c:Nat}{ks:List Int}{k:Int} (hk:Rd 1 H a l (az ks)) (hl:l<=1099511627776) (h:Q (.bool (decide (k∈ks))) H):ag PP 390 #[.slice a l c,ac k] Q H:=by
 have QR:l=ks.length:=by have:=hk.1;simpa [az] using this.symm
 apply E9;dsimp only [aP,ah,aX,ay,bc,ac,bf,bX,bm,aI];refine ⟨fun w H'=>H'=H∧∃ n:Nat,w=[ac n]∧n<=l∧k∉ks.take n,fun w _=>match w with
  | [.int _ i]=>(l-i).toNat
  | _=>0,⟨rfl,0,rfl,a07 _,by simp⟩,?_⟩
 rintro w H1 ⟨rfl,n,rfl,Sb,Oc⟩ _;refine ⟨n,rfl,?_⟩;simp only [ae,a0P,a0f,a0l,a0L,bh,aV,bx,bA,bi,bB,bt,aW,bv,bu,bg,bz,a06,a1a,a1d,aB,a0K,a0y,aM,aG,aY,a0p,a0C,bq,bn];split
 ·rename_i an;obtain ⟨p,rfl,aj,be⟩:=hk.int (i:=(n:Int)) (by omega) an;rw [a0j] at aj be;simp only [ae,a0P,a0f,a0l,a0L,bh,aV,bx,bA,bi,bB,bt,aW,bv,bu,bg,bz,a06,a1a,a1d,aB,a0K,a0y,aM,aG,aY,a0p,a0C,bq,bn,a0j,aj];refine ⟨by omega,an,?_⟩;have lj:ks.take (n+1)=ks.take n++[ks.getD n 0]:=by rw [a1i];simp [be]
  split
  ·rename_i he
   have:k∈ks:=by
    have hm:ks.getD n 0∈ks:=by
     have:ks.getD n 0=ks[n]:=by simp [be]
     rw [this];exact a04 be
    rw [he] at hm;exact hm
   simpa [this] using h
  ·rename_i he;have e:IntKind.wrap .i64 ((n:Int)+1)=((n+1:Nat):Int):=by rw [ao (by omega) (by omega)];omega
   rw [e];refine ⟨⟨n+1,rfl,by omega,?_⟩,by simp;omega⟩;rw [lj];simp only [a0T,a0A,a21];exact ⟨Oc,fun e=>he e.symm⟩
 ·rename_i an
  have:ks.take n=ks:=a0Y (by omega);rw [this] at Oc;simpa [Oc] using h
end
theorem cd {p:Prop} [Decidable p] {X Y:Prop} (h1:p->X) (h2:¬ p->Y):if p then X else Y:=by
 split
 ·exact h1 ‹_›
 ·exact h2 ‹_›
section
variable {H:au}{b:Nat}{F F':aS}{r:RH}{a:Option Addr}{l c:Nat}{Q:QT}
theorem uM {G:au}{xb:Nat}{r1:RH}{lw en bo n2 n3 n4:Int} (hx:bI G xb #[ac lw,ac n4,ac en,ac bo,ac n2,.slice none 0 0]) (hR:eJ G b F r1) (RV:xb∉F) (Ox:0<=n3) (Sb:n3<=8192)
  (hw:WFH { r1 with born:=IntKind.wrap .i64 (r1.born+1),objs:=r1.objs++[⟨lw,n4,en,bo,n2,List.replicate n3.toNat (if n4=1 then 0 else 4)⟩] })
  (h:∀ H' F',eJ H' b F' { r1 with born:=IntKind.wrap .i64 (r1.born+1),objs:=r1.objs++[⟨lw,n4,en,bo,n2,List.replicate n3.toNat (if n4=1 then 0 else 4)⟩] }->Fr (xb :: F) G H'->(∀ x∈F',x∈F∨G.size<=x)->Q (.tuple #[ac lw,ac 0]) H') :
  ∃(I33:List Value->au->Prop) (μ33:List Value->au->Nat),I33 [ac 0] G∧∀ w34 H7,I33 w34 H7->∀ _g:Nat->Value,∃ n35:Int,w34=[ac n35]∧cond (decide (n35<n3)) (cond (n4 == 1) (∃ a36:Option Addr,∃ l36:Nat,∃ c36:Nat,aq H7 ((⟨xb,0,none⟩:Addr).add 5)=some (.slice a36 l36 c36)∧cB PP (Builtin.append_ #[30,30] 30 #[.slice a36 l36 c36,.slice (some (⟨H7.size,0,none⟩:Addr)) 1 1]) (fun v37 H8=>∃ a38:Option Addr,∃ l38:Nat,∃ c38:Nat,v37=.slice a38 l38 c38∧Wr H8 ((⟨xb,0,none⟩:Addr).add 5)∧I33 [ac (IntKind.wrap .i64 (n35+1))] (aQ H8 ((⟨xb,0,none⟩:Addr).add 5) (.slice a38 l38 c38))∧μ33 [ac (IntKind.wrap .i64 (n35+1))] (aQ H8 ((⟨xb,0,none⟩:Addr).add 5) (.slice a38 l38 c38))<μ33 w34 H7) (H7.push (.cells #[ac 0] 26))) (∃ a39:Option Addr,∃ l39:Nat,∃ c39:Nat,aq H7 ((⟨xb,0,none⟩:Addr).add 5)=some (.slice a39 l39 c39)∧cB PP (Builtin.append_ #[30,30] 30 #[.slice a39 l39 c39,.slice (some (⟨H7.size,0,none⟩:Addr)) 1 1]) (fun v40 H9=>∃ a41:Option Addr,∃ l41:Nat,∃ c41:Nat,v40=.slice a41 l41 c41∧Wr H9 ((⟨xb,0,none⟩:Addr).add 5)∧I33 [ac (IntKind.wrap .i64 (n35+1))] (aQ H9 ((⟨xb,0,none⟩:Addr).add 5) (.slice a41 l41 c41))∧μ33 [ac (IntKind.wrap .i64 (n35+1))] (aQ H9 ((⟨xb,0,none⟩:Addr).add 5) (.slice a41 l41 c41))<μ33 w34 H7) (H7.push (.cells #[ac 4] 26)))) (∃ q42,(some (⟨b,0,none⟩:Addr))=some q42∧∃ n43:Int,aq H7 (q42.add 3)=some (ac n43)∧∃ q44,(some (⟨b,0,none⟩:Addr))=some q44∧Wr H7 (q44.add 3)∧∃ q45,(some (⟨b,0,none⟩:Addr))=some q45∧∃ a46:Option Addr,∃ l46:Nat,∃ c46:Nat,aq (aQ H7 (q44.add 3) (ac (IntKind.wrap .i64 (n43+1)))) (q45.add 5)=some (.slice a46 l46 c46)∧∃ n47:Int,aq (aQ H7 (q44.add 3) (ac (IntKind.wrap .i64 (n43+1)))) (⟨xb,0,none⟩:Addr)=some (ac n47)∧∃ n48:Int,aq (aQ H7 (q44.add 3) (ac (IntKind.wrap .i64 (n43+1)))) ((⟨xb,0,none⟩:Addr).add 1)=some (ac n48)∧∃ n49:Int,aq (aQ H7 (q44.add 3) (ac (IntKind.wrap .i64 (n43+1)))) ((⟨xb,0,none⟩:Addr).add 2)=some (ac n49)∧∃ n50:Int,aq (aQ H7 (q44.add 3) (ac (IntKind.wrap .i64 (n43+1)))) ((⟨xb,0,none⟩:Addr).add 3)=some (ac n50)∧∃ n51:Int,aq (aQ H7 (q44.add 3) (ac (IntKind.wrap .i64 (n43+1)))) ((⟨xb,0,none⟩:Addr).add 4)=some (ac n51)∧∃ a52:Option Addr,∃ l52:Nat,∃ c52:Nat,aq (aQ H7 (q44.add 3) (ac (IntKind.wrap .i64 (n43+1)))) ((⟨xb,0,none⟩:Addr).add 5)=some (.slice a52 l52 c52)∧((aq ((aQ H7 (q44.add 3) (ac (IntKind.wrap .i64 (n43+1)))).push (.cells #[ac n47,ac n48,ac n49,ac n50,ac n51,.slice a52 l52 c52] 170)) (q45.add 5)=some (.slice a46 l46 c46)∧True)∧True)∧cB PP (Builtin.append_ #[162,162] 162 #[.slice a46 l46 c46,.slice (some (⟨(aQ H7 (q44.add 3) (ac (IntKind.wrap .i64 (n43+1)))).size,0,none⟩:Addr)) 1 1]) (fun v53 H10=>∃ a54:Option Addr,∃ l54:Nat,∃ c54:Nat,v53=.slice a54 l54 c54∧True∧∃ q55,(some (⟨b,0,none⟩:Addr))=some q55∧Wr H10 (q55.add 5)∧True∧∃ n56:Int,aq (aQ H10 (q55.add 5) (.slice a54 l54 c54)) (⟨xb,0,none⟩:Addr)=some (ac n56)∧Q (.tuple #[ac n56,ac 0]) (aQ H10 (q55.add 5) (.slice a54 l54 c54))) ((aQ H7 (q44.add 3) (ac (IntKind.wrap .i64 (n43+1)))).push (.cells #[ac n47,ac n48,ac n49,ac n50,ac n51,.slice a52 l52 c52] 170))):=by
 have hxl:=hx.lt;have hFl:=hR.lt;have i7:bd PP 30=some (1,8,some (ac 0)):=by kernel_rfl
 have hs6:bd PP 162=some (6,64,some (.agg #[ac 0,ac 0,ac 0,ac 0,ac 0,.slice none 0 0])):=by kernel_rfl
 refine ⟨fun w H'=>∃ i:Int,w=[ac i]∧0<=i∧i<=n3∧∃ sa sl sc Gs,bI H' xb #[ac lw,ac n4,ac en,ac bo,ac n2,.slice sa sl sc]∧bZ 1 H' sa sl sc (az (List.replicate i.toNat (if n4=1 then 0 else 4))) Gs∧(∀ x∈Gs,G.size<=x)∧Fr [xb] G H',fun w _=>match w with
  | [.int _ i]=>(n3-i).toNat
  | _=>0,⟨0,rfl,a1F _,Ox,_,_,_,_,hx,bZ.nil 1 G,by simp,Fr.refl _ _⟩,?_⟩
 rintro w H1 ⟨i,rfl,Sy,VM,sa,sl,sc,Gs,Oq,hos,VA,bw⟩ _;refine ⟨i,rfl,?_⟩;have JB:aq H1 ⟨xb,5,none⟩=some (.slice sa sl sc):=Oq.cell 5;have VB:=hos.len;simp only [az,a1p,a3f,a0y] at VB;simp only [ae,bq];refine cd (fun hi=>?_) fun hi=>?_
 ·have US:∀ v:Int,List.replicate (i+1).toNat v=List.replicate i.toNat v++[v]:=fun v=>by
   rw [show (i+1).toNat=i.toNat+1 by omega,List.replicate_succ']
  have go:∀ (v:Int) (K:Value->au->Prop),v=(if n4=1 then 0 else 4)->(∀ (a':Option Addr) (c':Nat) (H3:au),Wr H3 ⟨xb,5,none⟩->(∃ j:Int,[Value.int .i64 (i+1)]=[ac j]∧0<=j∧j<=n3∧∃ ta tl tc Gt,bI (aQ H3 ⟨xb,5,none⟩ (.slice a' (sl+1) c')) xb #[ac lw,ac n4,ac en,ac bo,ac n2,.slice ta tl tc]∧bZ 1 (aQ H3 ⟨xb,5,none⟩ (.slice a' (sl+1) c')) ta tl tc (az (List.replicate j.toNat (if n4=1 then 0 else 4))) Gt∧(∀ x∈Gt,G.size<=x)∧Fr [xb] G (aQ H3 ⟨xb,5,none⟩ (.slice a' (sl+1) c')))->K (.slice a' (sl+1) c') H3) ->
    cB PP (Builtin.append_ #[30,30] 30 #[.slice sa sl sc,.slice (some ⟨H1.size,0,none⟩) 1 1]) K (H1.push (.cells #[ac v] 26)):=by
   intro v K hv hK;refine bK i7 rfl (by kernel_rfl) hos rfl (by simp [dJ]) (by omega) (by decide) (by decide) fun a' c' G' H3 h1 h2 h3=>?_;have hxg:xb∉Gs:=fun hm=>absurd (VA _ hm) (by omega);have Sg:bI H3 xb #[ac lw,ac n4,ac en,ac bo,ac n2,.slice sa sl sc]:=Oq.of_eq (h2.1.2 _ Oq.lt hxg);have a1r:xb∉G':=fun hm=>by
    rcases h2.2 _ hm with h4 | h4
    ·exact hxg h4
    ·have:=Oq.lt;omega
   have Tt:Fr [xb] G H3:=by
    refine ⟨a0O bw.1 h2.1.1,fun x JH hn=>?_⟩;rw [h2.1.2 x (a0X JH bw.1) fun hm=>absurd (VA _ hm) (by omega),bw.2 x JH hn]
   refine hK a' c' H3 (Sg.wr (by simp)) ⟨i+1,rfl,by omega,by omega,a',sl+1,c',G',Sg.set 5 (.slice a' (sl+1) c'),?_,fun x JH=>?_,Tt.step (by simp)⟩
   ·have h5:bZ 1 (aQ H3 ⟨xb,5,none⟩ (.slice a' (sl+1) c')) a' (sl+1) c' (az (List.replicate i.toNat (if n4=1 then 0 else 4))++[ac v]) G':=h1.keep fun x JH=>cP (fun e=>a1r (by have e':x=xb:=e;rw [←e'];exact JH));rw [US,←hv];rw [←hv] at h5;simpa [az] using h5
   ·rcases h2.2 x JH with h4 | h4
    ·exact VA x h4
    ·exact a0O bw.1 h4
  have e1:IntKind.wrap .i64 (i+1)=i+1:=ao (by omega) (by omega);rw [e1];refine cd (fun hf=>?_) fun hf=>?_
  ·refine ⟨_,_,_,JB,go 0 _ (by rw [a0b hf]) fun a' c' H3 Vz hI=>⟨_,_,_,rfl,Vz,hI,by simp;omega⟩⟩
  ·refine ⟨_,_,_,JB,go 4 _ (by rw [a0a hf]) fun a' c' H3 Vz hI=>⟨_,_,_,rfl,Vz,hI,by simp;omega⟩⟩
 ·have RA:i=n3:=by omega
  subst RA;have If:=hR.fr bw (fun x JH hn=>RV (by simp only [a0A] at hn;rw [←hn];exact JH));obtain ⟨a,l,c,F',rfl,Of,hB,hL,JY⟩:=If;have JO:aq H1 ⟨b,3,none⟩=some (ac r1.born):=hB.cell 3;refine ⟨_,rfl,_,JO,_,rfl,hB.wr (by simp),?_⟩;have Da:=hB.set 3 (ac (IntKind.wrap .i64 (r1.born+1)));have WE:xb≠b:=fun e=>RV (by simp [e]);have At:=Oq.set_ne (a:=⟨b,3,none⟩) WE (ac (IntKind.wrap .i64 (r1.born+1)));have I7:Fr [b] H1 (aQ H1 ⟨b,3,none⟩ (ac (IntKind.wrap .i64 (r1.born+1)))):=Fr.set (by simp);simp only [aB,a0K];generalize hH2:aQ H1 ⟨b,3,none⟩ (ac (IntKind.wrap .i64 (r1.born+1)))=H2 at *;have a1t:∀ x∈F',x<G.size:=fun x JH=>hFl x (by simp [JH]);have WC:b<G.size:=hFl b (by simp);have hL2:=hL.fr gi.frR gi.ltR I7 (fun x JH hn=>Of (by simp only [a0A] at hn;rw [←hn];exact JH));have a1u:=hos.fr I7 (fun x JH hn=>absurd (VA x JH) (by simp only [a0A] at hn;omega));have hc5b:aq H2 ⟨b,5,none⟩=some (.slice a l c):=Da.cell 5;have hp5:∀ o,aq (H2.push o) ⟨b,5,none⟩=some (.slice a l c):=fun o=>(eD Da.lt).trans hc5b;refine ⟨_,rfl,_,_,_,hc5b,_,At.cell 0,_,At.cell 1,_,At.cell 2,_,At.cell 3,_,At.cell 4,_,_,_,At.cell 5,⟨⟨hp5 _,trivial⟩,trivial⟩,?_⟩;have QR:=hL2.len;have Wl:l<274877906944:=by
   have h1:=fH JY.objs;have h2:=cJ JY.objs JY.w0;have h3:=JY.w1;omega
  refine gb.snoc (x:=⟨lw,n4,en,bo,n2,List.replicate i.toNat (if n4=1 then 0 else 4)⟩) (G:=Gs) gi.frR gi.ltR hs6 rfl (by kernel_rfl) hL2 ⟨_,_,_,rfl,a1u⟩ rfl (fun x JH hg=>absurd (a1t x JH) (by have:=VA x hg;omega)) (by simp [dJ]) Wl (by decide) (by decide) fun a' c' F3 H3 h1 h2 h3=>?_;have O9:=Da.of_eq (h2.2 b Da.lt Of);have Sg:=At.of_eq (h2.2 xb At.lt fun hm=>RV (by simp [hm]));have Xs:b∉F3:=fun hm=>by
   rcases h3 b hm with h4 | h4 | h4
   ·exact Of h4
   ·have:=VA b h4;omega
   ·have:=Da.lt;omega
  have a1v:aq (aQ H3 ⟨b,5,none⟩ (.slice a' (l+1) c')) ⟨xb,0,none⟩=some (ac lw):=(Sg.set_ne (a:=⟨b,5,none⟩) WE (.slice a' (l+1) c')).cell 0;refine ⟨_,_,_,rfl,trivial,_,rfl,O9.wr (by simp),trivial,_,a1v,h _ (b :: F3) ⟨a',l+1,c',F3,rfl,Xs,O9.set 5 (.slice a' (l+1) c'),h1.keep gi.frR fun x JH=>cP (fun e=>Xs (by have e':x=b:=e;rw [←e'];exact JH)),hw⟩ ?_ fun x JH=>?_⟩
  ·refine Fr.step ?_ (by simp);exact (bw.mono (by simp)).trans ((I7.mono (by simp)).trans (h2.mono fun x JH=>by simp [JH]))
  ·rcases a0E.1 JH with rfl | JH
   ·exact .inl (by simp)
   ·rcases h3 x JH with h4 | h4 | h4
    ·exact .inl (by simp [h4])
    ·exact .inr (VA x h4)
    ·exact .inr (a0O (a0O bw.1 I7.1) h4)
theorem mO {G:au}{xb:Nat}{r1:RH}{lw en bo n2 n3 n4:Int} (hx:bI G xb #[ac 0,ac 0,ac 0,ac 0,ac 0,.slice none 0 0]) (hR:eJ G b F r1) (RV:xb∉F) (Ox:0<=n3) (Sb:n3<=8192)
  (hw:WFH { r1 with born:=IntKind.wrap .i64 (r1.born+1),objs:=r1.objs++[⟨lw,n4,en,bo,n2,List.replicate n3.toNat (if n4=1 then 0 else 4)⟩] })
  (h:∀ H' F',eJ H' b F' { r1 with born:=IntKind.wrap .i64 (r1.born+1),objs:=r1.objs++[⟨lw,n4,en,bo,n2,List.replicate n3.toNat (if n4=1 then 0 else 4)⟩] }->Fr (xb :: F) G H'->(∀ x∈F',x∈F∨G.size<=x)->Q (.tuple #[ac lw,ac 0]) H') :
  Wr G (⟨xb,0,none⟩:Addr)∧Wr (aQ G (⟨xb,0,none⟩:Addr) (ac lw)) ((⟨xb,0,none⟩:Addr).add 1)∧Wr (aQ (aQ G (⟨xb,0,none⟩:Addr) (ac lw)) ((⟨xb,0,none⟩:Addr).add 1) (ac n4)) ((⟨xb,0,none⟩:Addr).add 2)∧Wr (aQ (aQ (aQ G (⟨xb,0,none⟩:Addr) (ac lw)) ((⟨xb,0,none⟩:Addr).add 1) (ac n4)) ((⟨xb,0,none⟩:Addr).add 2) (ac en)) ((⟨xb,0,none⟩:Addr).add 3)∧Wr (aQ (aQ (aQ (aQ G (⟨xb,0,none⟩:Addr) (ac lw)) ((⟨xb,0,none⟩:Addr).add 1) (ac n4)) ((⟨xb,0,none⟩:Addr).add 2) (ac en)) ((⟨xb,0,none⟩:Addr).add 3) (ac bo)) ((⟨xb,0,none⟩:Addr).add 4)∧Wr (aQ (aQ (aQ (aQ (aQ G (⟨xb,0,none⟩:Addr) (ac lw)) ((⟨xb,0,none⟩:Addr).add 1) (ac n4)) ((⟨xb,0,none⟩:Addr).add 2) (ac en)) ((⟨xb,0,none⟩:Addr).add 3) (ac bo)) ((⟨xb,0,none⟩:Addr).add 4) (ac n2)) ((⟨xb,0,none⟩:Addr).add 5)∧True∧∃(I33:List Value->au->Prop) (μ33:List Value->au->Nat),I33 [ac 0] (aQ (aQ (aQ (aQ (aQ (aQ G (⟨xb,0,none⟩:Addr) (ac lw)) ((⟨xb,0,none⟩:Addr).add 1) (ac n4)) ((⟨xb,0,none⟩:Addr).add 2) (ac en)) ((⟨xb,0,none⟩:Addr).add 3) (ac bo)) ((⟨xb,0,none⟩:Addr).add 4) (ac n2)) ((⟨xb,0,none⟩:Addr).add 5) (.slice none 0 0))∧∀ w34 H7,I33 w34 H7->∀ _g:Nat->Value,∃ n35:Int,w34=[ac n35]∧cond (decide (n35<n3)) (cond (n4 == 1) (∃ a36:Option Addr,∃ l36:Nat,∃ c36:Nat,aq H7 ((⟨xb,0,none⟩:Addr).add 5)=some (.slice a36 l36 c36)∧cB PP (Builtin.append_ #[30,30] 30 #[.slice a36 l36 c36,.slice (some (⟨H7.size,0,none⟩:Addr)) 1 1]) (fun v37 H8=>∃ a38:Option Addr,∃ l38:Nat,∃ c38:Nat,v37=.slice a38 l38 c38∧Wr H8 ((⟨xb,0,none⟩:Addr).add 5)∧I33 [ac (IntKind.wrap .i64 (n35+1))] (aQ H8 ((⟨xb,0,none⟩:Addr).add 5) (.slice a38 l38 c38))∧μ33 [ac (IntKind.wrap .i64 (n35+1))] (aQ H8 ((⟨xb,0,none⟩:Addr).add 5) (.slice a38 l38 c38))<μ33 w34 H7) (H7.push (.cells #[ac 0] 26))) (∃ a39:Option Addr,∃ l39:Nat,∃ c39:Nat,aq H7 ((⟨xb,0,none⟩:Addr).add 5)=some (.slice a39 l39 c39)∧cB PP (Builtin.append_ #[30,30] 30 #[.slice a39 l39 c39,.slice (some (⟨H7.size,0,none⟩:Addr)) 1 1]) (fun v40 H9=>∃ a41:Option Addr,∃ l41:Nat,∃ c41:Nat,v40=.slice a41 l41 c41∧Wr H9 ((⟨xb,0,none⟩:Addr).add 5)∧I33 [ac (IntKind.wrap .i64 (n35+1))] (aQ H9 ((⟨xb,0,none⟩:Addr).add 5) (.slice a41 l41 c41))∧μ33 [ac (IntKind.wrap .i64 (n35+1))] (aQ H9 ((⟨xb,0,none⟩:Addr).add 5) (.slice a41 l41 c41))<μ33 w34 H7) (H7.push (.cells #[ac 4] 26)))) (∃ q42,(some (⟨b,0,none⟩:Addr))=some q42∧∃ n43:Int,aq H7 (q42.add 3)=some (ac n43)∧∃ q44,(some (⟨b,0,none⟩:Addr))=some q44∧Wr H7 (q44.add 3)∧∃ q45,(some (⟨b,0,none⟩:Addr))=some q45∧∃ a46:Option Addr,∃ l46:Nat,∃ c46:Nat,aq (aQ H7 (q44.add 3) (ac (IntKind.wrap .i64 (n43+1)))) (q45.add 5)=some (.slice a46 l46 c46)∧∃ n47:Int,aq (aQ H7 (q44.add 3) (ac (IntKind.wrap .i64 (n43+1)))) (⟨xb,0,none⟩:Addr)=some (ac n47)∧∃ n48:Int,aq (aQ H7 (q44.add 3) (ac (IntKind.wrap .i64 (n43+1)))) ((⟨xb,0,none⟩:Addr).add 1)=some (ac n48)∧∃ n49:Int,aq (aQ H7 (q44.add 3) (ac (IntKind.wrap .i64 (n43+1)))) ((⟨xb,0,none⟩:Addr).add 2)=some (ac n49)∧∃ n50:Int,aq (aQ H7 (q44.add 3) (ac (IntKind.wrap .i64 (n43+1)))) ((⟨xb,0,none⟩:Addr).add 3)=some (ac n50)∧∃ n51:Int,aq (aQ H7 (q44.add 3) (ac (IntKind.wrap .i64 (n43+1)))) ((⟨xb,0,none⟩:Addr).add 4)=some (ac n51)∧∃ a52:Option Addr,∃ l52:Nat,∃ c52:Nat,aq (aQ H7 (q44.add 3) (ac (IntKind.wrap .i64 (n43+1)))) ((⟨xb,0,none⟩:Addr).add 5)=some (.slice a52 l52 c52)∧((aq ((aQ H7 (q44.add 3) (ac (IntKind.wrap .i64 (n43+1)))).push (.cells #[ac n47,ac n48,ac n49,ac n50,ac n51,.slice a52 l52 c52] 170)) (q45.add 5)=some (.slice a46 l46 c46)∧True)∧True)∧cB PP (Builtin.append_ #[162,162] 162 #[.slice a46 l46 c46,.slice (some (⟨(aQ H7 (q44.add 3) (ac (IntKind.wrap .i64 (n43+1)))).size,0,none⟩:Addr)) 1 1]) (fun v53 H10=>∃ a54:Option Addr,∃ l54:Nat,∃ c54:Nat,v53=.slice a54 l54 c54∧True∧∃ q55,(some (⟨b,0,none⟩:Addr))=some q55∧Wr H10 (q55.add 5)∧True∧∃ n56:Int,aq (aQ H10 (q55.add 5) (.slice a54 l54 c54)) (⟨xb,0,none⟩:Addr)=some (ac n56)∧Q (.tuple #[ac n56,ac 0]) (aQ H10 (q55.add 5) (.slice a54 l54 c54))) ((aQ H7 (q44.add 3) (ac (IntKind.wrap .i64 (n43+1)))).push (.cells #[ac n47,ac n48,ac n49,ac n50,ac n51,.slice a52 l52 c52] 170))):=by
 have Oq:=hx.set 0 (ac lw);have At:=Oq.set 1 (ac n4);have Sg:=At.set 2 (ac en);have Ur:=Sg.set 3 (ac bo);have hx5:=Ur.set 4 (ac n2);have hx6:=hx5.set 5 (.slice none 0 0);have Si:Fr [xb] G (aQ (aQ (aQ (aQ (aQ (aQ G ⟨xb,0,none⟩ (ac lw)) ⟨xb,1,none⟩ (ac n4)) ⟨xb,2,none⟩ (ac en)) ⟨xb,3,none⟩ (ac bo)) ⟨xb,4,none⟩ (ac n2)) ⟨xb,5,none⟩ (.slice none 0 0)) :=
  ((((((Fr.refl _ _).step (by simp)).step (by simp)).step (by simp)).step (by simp)).step (by simp)).step (by simp)
 simp only [aB,a0K];refine ⟨hx.wr (by simp),Oq.wr (by simp),At.wr (by simp),Sg.wr (by simp),Ur.wr (by simp),hx5.wr (by simp),trivial,?_⟩;have ht:=uM (Q:=Q) hx6 (hR.fr Si (fun x hx hn=>RV (by simp only [a0A] at hn;rw [←hn];exact hx))) RV Ox Sb hw (fun H' F' h1 h2 h3=>h H' F' h1 ((Si.mono (by simp)).trans h2) fun x hx=>(h3 x hx).imp id fun h4=>by simpa only [ck] using h4);simp only [aB,a0K] at ht;exact ht
theorem qq (hR:eJ H b F r){cls n f:Int} (h:∀ H' F',eJ H' b F' (r.alloc cls n f).2->Up F H F' H'->Q (wK (r.alloc cls n f).1) H'):ag PP 94 #[QW b,ac cls,ac n,ac f] Q H:=by
 have w6:=hR;obtain ⟨a,l,c,F',rfl,V1,hB,hL,hw⟩:=hR;have QR:=hL.len;have Jm:aq H ⟨b,0,none⟩=some (ac r.words):=hB.cell 0;have uF:aq H ⟨b,1,none⟩=some (ac r.oops):=hB.cell 1;have JB:aq H ⟨b,5,none⟩=some (.slice a l c):=hB.cell 5;have Tn:=cJ hw.objs hw.w0;have JY:=hw.w1;have Tm:=hw.o0;have IN:=hw.o1;have VQ:=hw.m0;have CO:=hw.m1;apply MQ;dsimp only [aL,aN,aA,aC,ah,bP,aX,ay,aK,ac,mS,bX,av,bm,aE,cD,am,aJ,bM,ax,bj,aI];simp only [ae,bq,bn,a0l,a0f];refine gn ⟨_,rfl,?_⟩;unfold RH.alloc at h;have h0:=h;by_cases D7:dL cls
 ·have hkn:¬ aU cls=0:=D7;rw [a0a hkn];refine cd (fun g1=>?_) fun g1=>?_
  ·simp only [D7,not_true_eq_false,false_or] at h;rw [a0b (by omega)] at h;exact h H _ w6 (Up.refl _ _)
  refine cd (fun g2=>?_) fun g2=>?_
  ·simp only [D7,not_true_eq_false,false_or] at h;rw [a0b (by omega)] at h;exact h H _ w6 (Up.refl _ _)
  refine cd (fun g3=>?_) fun g3=>?_
  ·simp only [D7,not_true_eq_false,false_or] at h;rw [a0b (by omega)] at h;exact h H _ w6 (Up.refl _ _)
  have n1:¬ (¬ dL cls∨f<0∨1<f∨n<0):=fun hh=>hh.elim (fun hh=>hh D7) (by omega);rw [a0a n1] at h;refine cd (fun g4=>?_) fun g4=>?_
  ·rw [a0b (by omega)] at h;exact h H _ w6 (Up.refl _ _)
  rw [a0a (by omega)] at h;have hl:=jg (n:=n) (fmt:=f) (by omega);have K2:=jP (n:=n) (fmt:=f) (by omega);refine ⟨_,rfl,_,_,_,JB,_,rfl,_,uF,?_⟩;refine cd (fun g5=>?_) fun g5=>?_
  ·rw [a0b (.inl (by omega))] at h;exact h H _ w6 (Up.refl _ _)
  refine ⟨_,rfl,_,Jm,?_⟩;refine qK w6 fun H1 bw=>?_;have If:=w6.fr bw (bU.nil_right _);have u7:=hB.fr bw (by simp);have TY:aq H1 ⟨b,0,none⟩=some (ac r.words):=u7.cell 0;have VC:aq H1 ⟨b,2,none⟩=some (ac r.mark):=u7.cell 2;refine ⟨_,rfl,⟨⟨TY,trivial⟩,trivial⟩,?_⟩;have JT:Up (b :: F') H (b :: F') H1:=⟨bw.of_nil,fun _ hb=>.inl hb⟩;refine lQ (by omega) (by omega) ?_;refine ⟨_,rfl,⟨⟨TY,trivial⟩,trivial⟩,?_⟩;have e1:IntKind.wrap .i64 (bT r.objs+lenOf n f)=bT r.objs+lenOf n f:=ao (by omega) (by omega);rw [e1];refine cd (fun g6=>?_) fun g6=>?_
  ·rw [a0b (.inr (by omega))] at h;exact h H1 _ If JT
  rw [a0a (by omega)] at h;refine ⟨_,rfl,_,VC,?_⟩;refine cd (fun hm=>?_) fun hm=>?_
  ·rw [a0b hm] at h;refine ⟨_,rfl,u7.wr (by simp),h _ _ ⟨a,l,c,F',rfl,V1,u7.set 2 (ac 0),(hL.fr gi.frR gi.ltR bw (bU.nil_right _)).keep gi.frR fun x hx=>cP (fun e=>V1 (by have e':x=b:=e;rw [←e'];exact hx)),{ hw with m0:=by simp,m1:=by simp }⟩ (JT.trans ⟨Fr.set (by simp),fun _ hb=>.inl hb⟩)⟩
  rw [a0a hm] at h;refine ⟨fun w H'=>w=[]∧eJ H' b (b :: F') { r with mark:=if 0<r.mark then r.mark-1 else r.mark }∧Up (b :: F') H (b :: F') H',?_,?_⟩
  ·refine ⟨_,rfl,_,VC,?_⟩;refine cd (fun Rx=>?_) fun Rx=>?_
   ·refine ⟨_,rfl,_,VC,_,rfl,?_⟩;rw [ao (n:=r.mark-1) (by omega) (by omega)];refine ⟨u7.wr (by simp),rfl,⟨a,l,c,F',rfl,V1,?_,(hL.fr gi.frR gi.ltR bw (bU.nil_right _)).keep gi.frR fun x hx=>cP (fun e=>V1 (by have e':x=b:=e;rw [←e'];exact hx)),?_⟩,JT.trans ⟨Fr.set (by simp),fun _ hb=>.inl hb⟩⟩
    ·rw [a0b Rx];exact u7.set 2 (ac (r.mark-1))
    ·rw [a0b Rx];exact { hw with m0:=by simp;omega,m1:=by simp;omega }
   ·refine ⟨rfl,?_,JT⟩;rw [a0a Rx];exact If
  ·rintro w H2 ⟨rfl,Jn,Jd⟩ _;have an:(r.objs.length:Int)<r.oops:=by omega
   have TZ:aq H2 ⟨b,3,none⟩=some (ac r.born):=by
    obtain ⟨a',l',c',F'',_,_,Sf,_⟩:=Jn;exact Sf.cell 3
   have OJ:r.alloc cls n f=((cQ r.objs,0),{ r with mark:=if 0<r.mark then r.mark-1 else r.mark,born:=IntKind.wrap .i64 (r.born+1),objs:=r.objs++[ft r cls n f] }):=by
    unfold RH.alloc;rw [a0a n1,a0a (by omega),a0a (by omega),a0a hm]
   have pe:=ke hw cls n f;rw [OJ] at pe;have hH2:∀ x∈b :: F',x<H2.size:=Jn.lt;have fin:∀ (G H':au) (xb:Nat) (F3:aS),Fr [] H2 G->H2.size<=xb->Fr (xb :: b :: F') G H'->eJ H' b F3 { r with mark:=if 0<r.mark then r.mark-1 else r.mark,born:=IntKind.wrap .i64 (r.born+1),objs:=r.objs++[ft r cls n f] }->(∀ x∈F3,x∈b :: F'∨G.size<=x)->Q (.tuple #[ac (cQ r.objs),ac 0]) H':=by
    intro G H' xb F3 k1 k2 k3 k4 k5;refine h H' F3 k4 (Jd.trans ⟨⟨a0O k1.1 k3.1,fun x hx hn=>?_⟩,fun x hx=>?_⟩)
    ·rw [k3.2 x (a0X hx k1.1) (by simp only [a0E,a21] at hn ⊢;exact ⟨by omega,hn⟩),k1.2 x hx (by simp)]
    ·exact (k5 x hx).imp id fun k6=>a0O k1.1 k6
   have hp3:∀ (G:au) o,Fr [] H2 G->aq (G.push o) ⟨b,3,none⟩=some (ac r.born):=fun G o hf=>by
    obtain ⟨a',l',c',F'',hFF,_,Sf,_⟩:=Jn.fr (hf.more) (bU.nil_right _);exact Sf.cell 3
   have Sr:∀ (G:au),Fr [] H2 G->aq G ⟨b,3,none⟩=some (ac r.born):=fun G hf=>by
    obtain ⟨a',l',c',F'',hFF,_,Sf,_⟩:=Jn.fr hf (bU.nil_right _);exact Sf.cell 3
   have Td:∀ xb,H2.size<=xb->xb∉b :: F':=fun xb h1 h2=>absurd (hH2 xb h2) (by omega);refine ⟨rfl,_,rfl,_,TZ,?_,?_⟩
   ·refine sW Jn an ⟨_,rfl,⟨⟨TZ,trivial⟩,trivial⟩,?_,?_⟩
    ·refine qK Jn fun H3 l7=>⟨_,rfl,⟨⟨Sr _ l7,trivial⟩,trivial⟩,⟨⟨hp3 _ _ l7,trivial⟩,trivial⟩,?_⟩;have t:=mO (Q:=Q) (bI.new H3 _ 170) (Jn.fr l7.more (bU.nil_right _)) (Td _ l7.1) (by omega) (by omega) pe fun H' F3 k1 k2 k3=>fin _ H' _ F3 l7.more l7.1 k2 k1 k3;simp only [ae,bq,bn,a0l,a0f] at t;exact t
    ·have l7:Fr [] H2 (H2.push (.cells #[ac 0,ac 0,ac 0,ac 0,ac 0,.slice none 0 0] 170)):=Fr.push _ _ _;refine ⟨⟨⟨Sr _ l7,trivial⟩,trivial⟩,qK (Jn.fr l7 (bU.nil_right _)) fun H4 uH=>⟨_,rfl,⟨⟨Sr _ (l7.trans uH),trivial⟩,trivial⟩,?_⟩⟩;have t:=mO (Q:=Q) ((bI.new H2 _ 170).fr uH (by simp)) (Jn.fr (l7.trans uH) (bU.nil_right _)) (Td _ (a0U _)) (by omega) (by omega) pe fun H' F3 k1 k2 k3=>fin _ H' _ F3 (l7.trans uH) (a0U _) k2 k1 k3;simp only [ae,bq,bn,a0l,a0f] at t;exact t
   ·have l7:Fr [] H2 (H2.push (.cells #[ac 0,ac 0,ac 0,ac 0,ac 0,.slice none 0 0] 170)):=Fr.push _ _ _;refine ⟨⟨⟨Sr _ l7,trivial⟩,trivial⟩,sW (Jn.fr l7 (bU.nil_right _)) an ⟨_,rfl,⟨⟨Sr _ l7,trivial⟩,trivial⟩,?_⟩⟩;refine qK (Jn.fr l7 (bU.nil_right _)) fun H4 uH=>⟨_,rfl,⟨⟨Sr _ (l7.trans uH),trivial⟩,trivial⟩,?_⟩;have t:=mO (Q:=Q) ((bI.new H2 _ 170).fr uH (by simp)) (Jn.fr (l7.trans uH) (bU.nil_right _)) (Td _ (a0U _)) (by omega) (by omega) pe fun H' F3 k1 k2 k3=>fin _ H' _ F3 (l7.trans uH) (a0U _) k2 k1 k3;simp only [ae,bq,bn,a0l,a0f] at t;exact t
 ·rw [a0b (by unfold dL at D7;omega)];rw [a0b (.inl D7)] at h;exact h H _ w6 (Up.refl _ _)
theorem LV (hR:eJ H b F r) (h:∀ a l c G H',bZ 1 H' a l c (az r.all) G->Fr [] H H'->(∀ x∈G,H.size<=x)->Q (.slice a l c) H'):ag PP 113 #[QW b] Q H:=by
 have hw:=hR.wf;have Tm:=hw.o0;have IN:=hw.o1;have hlen:=RH.all_len hw;have Jw:bd PP 25=some (1,8,some (ac 0)):=by kernel_rfl
 have h0:r.upto 1=[]:=by
  rw [show (1:Nat)=0+1 by rfl,RH.upto_succ]
  have:aT r.objs ((0:Nat):Int)=none:=eB.2 fun o ho=>by have:=(hw.objs.good o ho).oop1;omega
  rw [this];rfl
 apply Dg;dsimp only [aL,aC,ah,aX,aK,ac,cL,av,bm,aE,cD,am,aJ,bM,ax,aI];simp only [ae,a0P,a0f,a0l,a0L,bh,aV,bx,bA,bi,bB,bt,aW,bv,bu,bg,bz,a06,a1a,a1d,aB,a0K,a0y,aM,aG,aY,a0p,a0C,bq,bn];refine ⟨fun w H'=>∃ k:Int,∃ a l c G,w=[.slice a l c,ac k]∧1<=k∧k<=r.oops+1∧bZ 1 H' a l c (az (r.upto k.toNat)) G∧Fr [] H H'∧(∀ x∈G,H.size<=x),fun w _=>match w with
  | [_,.int _ k]=>(r.oops+1-k).toNat
  | _=>0,⟨1,_,_,_,_,rfl,by omega,by omega,by rw [show (1:Int).toNat=1 by rfl,h0];exact bZ.nil 1 H,Fr.refl _ _,by simp⟩,?_⟩
 rintro w H1 ⟨k,a,l,c,G,rfl,JC,OU,ho,hf,hG⟩ _;refine ⟨_,_,_,_,rfl,?_⟩;have If:=hR.fr hf (bU.nil_right _);have UZ:=If;obtain ⟨a',l',c',F',rfl,Of,hB,hL,_⟩:=UZ;have QR:=hL.len;have JB:aq H1 ⟨b,5,none⟩=some (.slice a' l' c'):=hB.cell 5;have VB:=ho.len;simp only [az,a1p,a0y] at VB;have Z5:=r.upto_len k.toNat;simp only [ae,a0P,a0f,a0l,a0L,bh,aV,bx,bA,bi,bB,bt,aW,bv,bu,bg,bz,a06,a1a,a1d,aB,a0K,a0y,aM,aG,aY,a0p,a0C,bq,bn,JB];refine cd (fun an=>?_) fun an=>?_
 ·have Jy:k<=r.oops:=by
   refine a0v fun hc=>?_;have TH:k.toNat=(r.oops+1).toNat:=by omega
   have:(r.upto k.toNat).length=r.objs.length:=by rw [TH];exact hlen
   omega
  have e1:IntKind.wrap .i64 (k+1)=k+1:=ao (by omega) (by omega);have TG:=r.upto_succ k.toNat;have ek:(k.toNat:Int)=k:=a2E (by omega);have ek1:(k+1).toNat=k.toNat+1:=by omega
  rw [ek] at TG;refine kB If (fun Db=>⟨_,rfl,?_⟩) fun n hn D2=>⟨_,rfl,?_⟩
  ·rw [a0a (by decide),e1];refine ⟨⟨k+1,_,_,_,G,rfl,by omega,by omega,?_,hf,hG⟩,by simp;omega⟩;rw [ek1,TG,Db];simpa using ho
  ·rw [a0b (by omega),e1];refine bK Jw rfl (by kernel_rfl) ho rfl (by simp [dJ]) (by omega) (by decide) (by decide) fun a2 c2 G2 H2 h1 h2 h3=>⟨_,_,_,rfl,?_⟩;have o3:=Up.fresh hf h2 hG;refine ⟨⟨k+1,_,_,_,G2,rfl,by omega,by omega,?_,o3.1,o3.2⟩,by simp;omega⟩;rw [ek1,TG,D2,bR];exact h1
 ·obtain ⟨t,ht⟩:=r.upto_prefix k.toNat (r.oops+1).toNat (by omega);have ht0:t=[]:=by
   have h1:r.all=r.upto k.toNat++t:=ht;have h2:=congrArg List.length h1;rw [a1h,hlen] at h2;exact a1o (by omega)
  have:r.upto k.toNat=r.all:=by
   have h1:r.all=r.upto k.toNat++t:=ht;rw [h1,ht0,a2S]
  rw [this] at ho;exact h _ _ _ _ H1 ho hf hG
end
section
variable {H:au}{b:Nat}{F F':aS}{r:RH}{a:Option Addr}{l c:Nat}{Q:QT}
theorem B9 (hw:WFH r) (kf:RO->Bool) (j:Nat):0<=bV 0 ((r.objs.take j).filter kf)∧bV 0 ((r.objs.take j).filter kf)<=1048576:=by
 have JY:=hw.w1;have Tu:WFO r.words r.oops ((r.objs.take j).filter kf):=WFO.filter ⟨fun o ho=>hw.objs.good o (a2W ho),hw.objs.pw.sublist (a4q j r.objs)⟩ kf;have hs:=nJ _ 0 Tu (a1F _) fun o ho=>(Tu.good o ho).pl;have hb:=cJ hs.1 hw.w0;rw [jd] at hb;omega
theorem Gn (hR:eJ H b F r){a2:Option Addr}{l2 c2:Nat}{ks:List Int} (hk:Rd 1 H a2 l2 (az ks)) (I6:l2<=1099511627776)
  (h:∀ H' F',eJ H' b F' (r.keep ks).2->Up F H F' H'->Q (nM (r.keep ks).1) H'):ag PP 368 #[QW b,.slice a2 l2 c2] Q H:=by
 have w6:=hR;obtain ⟨a,l,c,F',rfl,V1,hB,hL,hw⟩:=hR;have QR:=hL.len;have Is:=w6.lt;have K2:l2=ks.length:=by have:=hk.1;simpa [az] using this.symm
 have Sc:=fH hw.objs;have Tn:=cJ hw.objs hw.w0;have JY:=hw.w1;have hs6:bd PP 162=some (6,64,some (.agg #[ac 0,ac 0,ac 0,ac 0,ac 0,.slice none 0 0])):=by kernel_rfl
 apply Lq;dsimp only [aL,aN,bk,aC,ah,aX,ay,aK,bc,ac,bf,bX,A8,av,bm,aE,cD,am,aJ,bM,ax,bj,bJ,aI];simp only [ae,bq,bn,a0l,a0f];refine ⟨fun w H'=>H'=H∧∃ i:Nat,w=[ac i]∧i<=l2∧∀ k∈ks.take i,aT r.objs k≠none,fun w _=>match w with
  | [.int _ i]=>(l2-i).toNat
  | _=>0,⟨rfl,0,rfl,a07 _,by simp⟩,?_⟩
 rintro w H1 ⟨rfl,i,rfl,hi,b8⟩ _;refine ⟨_,rfl,cd (fun an=>?_) fun an=>?_⟩
 ·obtain ⟨p,rfl,aj,be⟩:=hk.int (i:=(i:Int)) (by omega) an;rw [a0j] at aj be;have lj:ks.take (i+1)=ks.take i++[ks.getD i 0]:=by rw [a1i];simp [be]
  have e:IntKind.wrap .i64 ((i:Int)+1)=((i+1:Nat):Int):=by rw [ao (by omega) (by omega)];omega
  refine ⟨⟨by omega,an⟩,_,rfl,_,by rw [a0j,a0y];exact aj,?_⟩;refine kB w6 (fun Db=>⟨_,rfl,cd (fun _=>?_) fun hc=>absurd (by decide) hc⟩) fun n hn ho=>⟨_,rfl,cd (fun hc=>absurd hc (by omega)) fun _=>?_⟩
  ·have hmem:ks.getD i 0∈ks:=by
    have:ks.getD i 0=ks[i]:=by simp [be]
    rw [this];exact a04 be
   have TH:r.keep ks=((0,0,20),r):=by unfold RH.keep;rw [a0b ⟨_,hmem,Db⟩]
   rw [TH] at h;exact h H1 _ w6 (Up.refl _ _)
  ·rw [e];refine ⟨⟨rfl,i+1,rfl,by omega,?_⟩,by simp;omega⟩;rw [lj];intro k RB;rcases a0T.1 RB with RB | RB
   ·exact b8 k RB
   ·simp only [a0A] at RB;rw [RB,ho];simp
 ·have Oe:ks.take i=ks:=a0Y (by omega);rw [Oe] at b8;obtain ⟨kf,UX⟩:∃ kf:RO->Bool,kf=fun o=>decide (o.oop∈ks):=⟨_,rfl⟩;have Jy:r.keepO ks=cF 0 (r.objs.filter kf):=by rw [UX];rfl
  have TH:r.keep ks=(((r.objs.length:Int)-((r.keepO ks).length:Int),bT r.objs-bT (r.keepO ks),0),{ r with objs:=r.keepO ks,turn:=IntKind.wrap .i64 (r.turn+1) }):=by
   unfold RH.keep;rw [a0a];rintro ⟨k,JC,OU⟩;exact b8 k JC OU
  have OW:=fT hw ks;rw [TH] at h OW;have JB:aq H1 ⟨b,5,none⟩=some (.slice a l c):=hB.cell 5;refine ⟨_,rfl,_,_,_,JB,?_⟩;refine qK w6 fun H2 fa=>⟨_,rfl,?_⟩;have hL0:=hL;obtain ⟨xs,Fl,Fs,fb,hsr,hdj,rfl,_⟩:=hL;refine ⟨fun w H'=>∃(j:Nat) (a1:Option Addr) (l1 c1:Nat) (ys:List Value) (F1 F2:aS) (xs1 xs2:List Value) (Fd Fr_:aS),w=[ac (bV 0 ((r.objs.take j).filter kf)),.slice a1 l1 c1,ac j]∧j<=r.objs.length∧Fr [] H1 H' ∧
    bZ 6 H' a1 l1 c1 ys F1∧SRep 6 gi H' ys (cF 0 ((r.objs.take j).filter kf)) F2∧(∀ x∈F1,H1.size<=x)∧l1=(cF 0 ((r.objs.take j).filter kf)).length ∧
    xs=xs1++xs2∧SRep 6 gi H1 xs1 (r.objs.take j) Fd∧SRep 6 gi H1 xs2 (r.objs.drop j) Fr_∧bU Fd Fr_∧(∀ x∈F2,x∈Fd)∧(∀ x∈Fd,x∈Fs)∧(∀ x∈Fr_,x∈Fs),fun w _=>match w with
   | [_,_,.int _ i]=>(r.objs.length-i).toNat
   | _=>0,⟨0,none,0,0,[],[],[],[],xs,[],Fs,by simp [bV],a07 _,fa,bZ.nil 6 H2,by simpa [cF] using SRep.nil,by simp,by simp [cF],rfl,by simpa using SRep.nil,by simpa using hsr,bU.nil_left _,by simp,by simp,fun x hx=>hx⟩,?_⟩
  rintro w H3 ⟨j,a1,l1,c1,ys,F1,F2,xs1,xs2,Fd,Fr_,rfl,hj,l7,IN,i7,Jx,J9,UR,SM,VD,VU,D3,UC,hFr⟩ _;have O9:=hB.fr l7 (by simp);have Xt:aq H3 ⟨b,5,none⟩=some (.slice a l c):=O9.cell 5;refine ⟨_,_,_,_,_,rfl,_,rfl,_,_,_,Xt,cd (fun an=>?_) fun an=>?_⟩
  ·have OR:j<r.objs.length:=by omega
   have lj:r.objs.take (j+1)=r.objs.take j++[r.objs[j]]:=by rw [a1i];simp [OR]
   have TA:r.objs.drop j=r.objs[j] :: r.objs.drop (j+1):=a1S OR;have Ry:r.objs[j]∈r.objs:=a04 OR;rw [TA] at VD;generalize r.objs[j]=o at *;have a1x:=SM.length;have hg:=hw.objs.good o Ry;have Jp:=hg.many;have hopos:=o.len_pos;rcases fb.2.2 with ⟨_,Jm,_⟩ | ⟨ob,cs,rfl,rfl,Wm,hcs,Zr⟩
   ·have:=fb.2.1;omega
   generalize SK:o :: r.objs.drop (j+1)=zs at VD;cases VD with
   | nil=>cases SK
   | @cons us xs3 o' l' G1 G2 Rz ZR Xu Xv =>
    cases SK;obtain ⟨sa,sl,sc,rfl,hso⟩:=Rz;have hsl:sl=o.slots.length:=by have:=hso.len;simpa [az] using this.symm
    have a1z:=(fb.fr l7 (by simp)).rd;have UD:xs1.length=j*6:=by rw [a1x,a1q,a4E (by omega)]
    have aj:∀ t,t<6->aq H3 ⟨ob,j*6+t,none⟩=[Value.int .i64 o.oop,ac o.fmt,ac o.place,ac o.born,ac o.cls,.slice sa sl sc][t]?:=by
     intro t ht
     have:=a1z.2.2 _ rfl (j*6+t) (by omega);rw [aB,a0K] at this;rw [this,UR,a2Z (by omega),UD,show j*6+t-j*6=t by omega,a2x (by simpa using ht)]
    have Jm:=aj 0 (by decide);have uF:=aj 1 (by decide);have w7:=aj 2 (by decide);have JO:=aj 3 (by decide);have Rr:=aj 4 (by decide);have Xw:=aj 5 (by decide);simp only [a4u,a1C,a1y] at Jm uF w7 JO Rr Xw;simp only [aB,a0K,a0j];refine ⟨_,rfl,_,_,_,Xt,⟨by omega,an⟩,_,rfl,?_⟩;simp only [aB,a0K];refine ⟨_,Jm,_,uF,_,w7,_,JO,_,Rr,_,_,_,Xw,?_⟩;simp only [aM,aG,aY,aB,a0K,a1w,a2q,a2r,a1D,a1b,a1s,a1O,a1y,a1C];refine ⟨by decide,by decide,by decide,by decide,by decide,by decide,_,rfl,?_⟩;have ej:IntKind.wrap .i64 ((j:Int)+1)=((j+1:Nat):Int):=by rw [ao (by omega) (by omega)];omega
    have Si:Fr [] H1 (H3.push (.cells #[ac o.oop,ac o.fmt,ac o.place,ac o.born,ac o.cls,.slice sa sl sc] 170)):=l7.more;have Og:∀ x∈G1,x∈Fs:=fun x hx=>hFr x (by simp [hx]);have RN:∀ x∈Fs,x<H1.size:=fun x hx=>Is x (by simp [hx]);have Se:SRep 6 gi H1 (xs1++[ac o.oop,ac o.fmt,ac o.place,ac o.born,ac o.cls,.slice sa sl sc]) (r.objs.take (j+1)) (Fd++G1):=by
     rw [lj];exact SM.append (SRep.one ⟨sa,sl,sc,rfl,hso⟩ rfl) (VU.mono (fun _ h=>h) fun x hx=>by simp [hx])
    refine NH (hk.fr' Si (by simp)) I6 ⟨_,rfl,?_⟩;by_cases hm:o.oop∈ks
    ·have uD:kf o=true:=by rw [UX];simpa using hm
     have Jz:(r.objs.take (j+1)).filter kf=(r.objs.take j).filter kf++[o]:=by rw [lj,a2T];simp [uD]
     simp only [hm,decide_true,a0P,aM,aG,aY,aB,a0K,a1w,a2q,a2r,a1D,a1b,a1s,a1O,a1y,a1C];refine ⟨by decide,_,_,_,rfl,_,rfl,?_⟩;refine lQ (by omega) (by omega) ⟨_,rfl,?_⟩;simp only [aG,aB,a0K,a1w,a2q,a2r,a1D,a1b,a1s,a1O,a1y,a1C];refine ⟨_,rfl,_,rfl,_,rfl,_,rfl,_,rfl,_,_,_,rfl,?_⟩;have Yi:bV 0 ((r.objs.take j).filter kf)<=1048576∧0<=bV 0 ((r.objs.take j).filter kf):=by
      have s8:=B9 hw kf j;omega
     have D2:o.len=lenOf o.slots.length o.fmt:=rfl;have Ja:=hg.fits;have JG:=hg.pl;have e2:IntKind.wrap .i64 (bV 0 ((r.objs.take j).filter kf)+lenOf ((sl:Nat):Int) o.fmt)=bV 0 ((r.objs.take (j+1)).filter kf):=by
      rw [Jz,gL,D2,hsl];exact ao (by omega) (by omega)
     rw [e2,ej];have hfy:Fr [] H1 (H3.push (.cells #[ac o.oop,ac o.fmt,ac (bV 0 ((r.objs.take j).filter kf)),ac o.born,ac o.cls,.slice sa sl sc] 170)):=l7.more;have hfz:Fr [] H3 (H3.push (.cells #[ac o.oop,ac o.fmt,ac (bV 0 ((r.objs.take j).filter kf)),ac o.born,ac o.cls,.slice sa sl sc] 170)):=Fr.push _ _ _;have SS:(cF 0 ((r.objs.take j).filter kf)).length<=r.objs.length:=by
      rw [lO];have h1:=a2w kf (r.objs.take j);rw [a1q] at h1;omega
     refine bK hs6 rfl (by kernel_rfl) (IN.fr hfz (by simp)) rfl (by simp [dJ]) (by omega) (by decide) (by decide) fun a3 c3 F3 H4 h1 h2 h3=>⟨_,_,_,rfl,?_⟩;have o3:=Up.fresh hfy h2 Jx;refine ⟨⟨j+1,a3,l1+1,c3,_,F3,F2++G1,_,xs3,Fd++G1,G2,rfl,by omega,o3.1,h1,?_,o3.2,?_,?_,Se,Xu,?_,?_,?_,?_⟩,by simp;omega⟩
     ·rw [Jz,eW];have Rw:∀ x,x<H1.size->x∉F1->H4[x]?=H3[x]?:=fun x hx hn=>by
       rw [h2.1.2 x (a0X hx hfy.1) hn,hfz.2 x (a0X hx l7.1) (by simp)]
      have hnf:∀ x∈Fs,x∉F1:=fun x hx hn=>absurd (Jx x hn) (by have:=RN x hx;omega);have Js:SRep 6 gi H4 [ac o.oop,ac o.fmt,ac (bV 0 ((r.objs.take j).filter kf)),ac o.born,ac o.cls,.slice sa sl sc] [{ o with place:=bV 0 ((r.objs.take j).filter kf) }] G1 :=
       SRep.one ⟨sa,sl,sc,rfl,hso.keep fun x hx=>by rw [Rw x (RN x (Og x hx)) (hnf x (Og x hx)),l7.2 x (RN x (Og x hx)) (by simp)]⟩ rfl
      refine (i7.keep gi.frR fun x hx=>Rw x (RN x (UC x (D3 x hx))) (hnf x (UC x (D3 x hx)))).append Js ?_
      ·exact fun x hx TD=>VU x (D3 x hx) (by simp [TD])
     ·rw [Jz,eW,a1h,←J9];rfl
     ·rw [UR];simp
     ·exact fun x hx TD=>by
       rcases a0T.1 hx with h4 | h4
       ·exact VU x h4 (by simp [TD])
       ·exact Xv x h4 TD
     ·exact fun x hx=>by
       rcases a0T.1 hx with h4 | h4
       ·simp [D3 x h4]
       ·simp [h4]
     ·exact fun x hx=>by
       rcases a0T.1 hx with h4 | h4
       ·exact UC x h4
       ·exact Og x h4
     ·exact fun x hx=>hFr x (by simp [hx])
    ·have uD:kf o=false:=by rw [UX];simpa using hm
     have Jz:(r.objs.take (j+1)).filter kf=(r.objs.take j).filter kf:=by rw [lj,a2T];simp [uD]
     simp only [hm,decide_false,a0f];rw [ej];have hfz:Fr [] H3 (H3.push (.cells #[ac o.oop,ac o.fmt,ac o.place,ac o.born,ac o.cls,.slice sa sl sc] 170)):=Fr.push _ _ _;refine ⟨⟨j+1,a1,l1,c1,ys,F1,F2,_,xs3,Fd++G1,G2,by rw [Jz],by omega,Si,IN.fr hfz (by simp),?_,Jx,by rw [Jz];exact J9,?_,Se,Xu,?_,?_,?_,?_⟩,by simp;omega⟩
     ·rw [Jz];exact i7.keep gi.frR fun x hx=>hfz.2 x (a0X (RN x (UC x (D3 x hx))) l7.1) (by simp)
     ·rw [UR];simp
     ·exact fun x hx TD=>by
       rcases a0T.1 hx with h4 | h4
       ·exact VU x h4 (by simp [TD])
       ·exact Xv x h4 TD
     ·exact fun x hx=>by simp [D3 x hx]
     ·exact fun x hx=>by
       rcases a0T.1 hx with h4 | h4
       ·exact UC x h4
       ·exact Og x h4
     ·exact fun x hx=>hFr x (by simp [hx])
  ·have TJ:j=r.objs.length:=by omega
   subst TJ;have TK:r.objs.take r.objs.length=r.objs:=a29;rw [TK] at i7 J9;rw [TK];rw [←Jy] at i7 J9;have hek:bV 0 (r.objs.filter kf)=bT (r.keepO ks):=by rw [Jy,jd]
   rw [hek];have hkb:=cJ (qh hw ks) hw.w0;have Jq:aq (aQ H3 ⟨b,5,none⟩ (.slice a1 l1 c1)) ⟨b,4,none⟩=some (ac r.turn):=(O9.set 5 (.slice a1 l1 c1)).cell 4;refine ⟨_,rfl,O9.wr (by simp),_,rfl,_,Jq,_,rfl,(O9.set 5 (.slice a1 l1 c1)).wr (by simp),?_⟩;simp only [aB,a0K];have Od:((r.keepO ks).length:Int)<=r.objs.length:=by
    rw [Jy,lO]
    have:=a2w kf r.objs;omega
   have e7:IntKind.wrap .i64 ((l:Int)-(l1:Int))=(r.objs.length:Int)-((r.keepO ks).length:Int):=by rw [ao (by omega) (by omega)];omega
   have e8:IntKind.wrap .i64 (bT r.objs-bT (r.keepO ks))=bT r.objs-bT (r.keepO ks):=ao (by omega) (by omega);rw [e7,e8];have D0:b<H1.size:=hB.lt;have RN:∀ x∈Fs,x<H1.size:=fun x hx=>Is x (by simp [hx]);have TV:b∉F1:=fun hm=>by have:=Jx b hm;omega
   have Xx:b∉F2:=fun hm=>V1 (by simp [UC b (D3 b hm)]);have Jt:∀ x,x≠b->(aQ (aQ H3 ⟨b,5,none⟩ (.slice a1 l1 c1)) ⟨b,4,none⟩ (ac (IntKind.wrap .i64 (r.turn+1))))[x]?=H3[x]?:=fun x hx=>by rw [cP hx,cP hx]
   have hBf:=(O9.set 5 (.slice a1 l1 c1)).set 4 (ac (IntKind.wrap .i64 (r.turn+1)));refine h _ (b :: (F1++F2)) ⟨a1,l1,c1,F1++F2,rfl,by simp [TV,Xx],hBf,⟨ys,F1,F2,IN.keep fun x hx=>Jt x (fun e=>TV (e ▸ hx)),i7.keep gi.frR fun x hx=>Jt x (fun e=>Xx (e ▸ hx)),fun x hx hg=>by have:=Jx x hx;have:=RN x (UC x (D3 x hg));omega,rfl,J9⟩,OW⟩ ⟨?_,fun x hx=>?_⟩
   ·exact (l7.of_nil.step (by simp)).step (by simp)
   ·rcases a0E.1 hx with rfl | hx
    ·exact .inl (by simp)
    ·rcases a0T.1 hx with h4 | h4
     ·exact .inr (Jx x h4)
     ·exact .inl (by simp [UC x (D3 x h4)])
end
section
variable {H:au}{b:Nat}{F F':aS}{r:RH}{Q:QT}
theorem BY {a:Option Addr}{l c:Nat}{ks:List Int}{k:Int} (hk:Rd 1 H a l (az ks)) (hl:l<=1099511627776) (h:Q (.bool (decide (k∈ks))) H):ag PP 114 #[.slice a l c,ac k] Q H:=by
 have QR:l=ks.length:=by have:=hk.1;simpa [az] using this.symm
 apply Fn;dsimp only [aP,ah,aX,ay,bc,ac,bf,bX,bm,aI];refine ⟨fun w H'=>H'=H∧∃ n:Nat,w=[ac n]∧n<=l∧k∉ks.take n,fun w _=>match w with
  | [.int _ i]=>(l-i).toNat
  | _=>0,⟨rfl,0,rfl,a07 _,by simp⟩,?_⟩
 rintro w H1 ⟨rfl,n,rfl,Sb,Oc⟩ _;refine ⟨n,rfl,?_⟩;simp only [ae,a0P,a0f,a0l,a0L,bh,aV,bx,bA,bi,bB,bt,aW,bv,bu,bg,bz,a06,a1a,a1d,aB,a0K,a0y,aM,aG,aY,a0p,a0C,bq,bn];split
 ·rename_i an;obtain ⟨p,rfl,aj,be⟩:=hk.int (i:=(n:Int)) (by omega) an;rw [a0j] at aj be;simp only [ae,a0P,a0f,a0l,a0L,bh,aV,bx,bA,bi,bB,bt,aW,bv,bu,bg,bz,a06,a1a,a1d,aB,a0K,a0y,aM,aG,aY,a0p,a0C,bq,bn,a0j,aj];refine ⟨by omega,an,?_⟩;have lj:ks.take (n+1)=ks.take n++[ks.getD n 0]:=by rw [a1i];simp [be]
  split
  ·rename_i he
   have:k∈ks:=by
    have hm:ks.getD n 0∈ks:=by
     have:ks.getD n 0=ks[n]:=by simp [be]
     rw [this];exact a04 be
    rw [he] at hm;exact hm
   simpa [this] using h
  ·rename_i he;have e:IntKind.wrap .i64 ((n:Int)+1)=((n+1:Nat):Int):=by rw [ao (by omega) (by omega)];omega
   rw [e];refine ⟨⟨n+1,rfl,by omega,?_⟩,by simp;omega⟩;rw [lj];simp only [a0T,a0A,a21];exact ⟨Oc,fun e=>he e.symm⟩
 ·rename_i an
  have:ks.take n=ks:=a0Y (by omega);rw [this] at Oc;simpa [Oc] using h
theorem rg (hR:eJ H b F r){w:Int} (h:Q (ac (bD r w)) H):ag PP 112 #[QW b,ac w] Q H:=by
 apply Ik;dsimp only [ah,ak,ac,am];unfold bD at h;refine B8 ?_;unfold mr;by_cases hk:aU w=3
 ·rw [a0b hk];refine ⟨_,_,rfl,?_⟩;simp only [ae,a0P,a0f,a0l,a0L,bh,aV,bx,bA,bi,bB,bt,aW,bv,bu,bg,bz,a06,a1a,a1d,aB,a0K,a0y,aM,aG,aY,a0p,a0C,bq,bn,a3Q,not_true_eq_false,if_false];refine lF hR ?_;unfold RH.clsAt;cases ho:aT r.objs (w / 4) with
  | none =>
   rw [ho] at h;exact ⟨_,_,rfl,by simpa using h⟩
  | some o =>
   rw [ho] at h;refine ⟨_,_,rfl,?_⟩;simp only [hk,a1a,a3G,if_true] at h;simpa using h
 ·rw [a0a hk];refine ⟨_,_,rfl,?_⟩;rw [a0a (fun hc=>hk hc.1)] at h;simpa using h
theorem qT {a:Option Addr}{l c:Nat}{ks:List Int}{G:aS}{n:Int} (ho:bZ 1 H a l c (az ks) G) (hl:l<1000000000) (h:∀ a' l' c' G' H',bZ 1 H' a' l' c' (az (ig ks n)) G'->Up G H G' H'->Q (.slice a' l' c') H') :
  ag PP 111 #[.slice a l c,ac n] Q H:=by
 have Jw:bd PP 25=some (1,8,some (ac 0)):=by kernel_rfl
 apply EV;dsimp only [aL,bk,ah,ac,av,aJ,bM,ax];unfold ig at h;simp only [ae,a0P,a0f,a0l,a0L,bh,aV,bx,bA,bi,bB,bt,aW,bv,bu,bg,bz,a06,a1a,a1d,aB,a0K,a0y,aM,aG,aY,a0p,a0C,bq,bn];split
 ·rename_i h0;rw [a0b (.inl h0)] at h;exact h _ _ _ _ H ho (Up.refl _ _)
 ·rename_i h0;refine BY ho.rd (by omega) ⟨_,rfl,?_⟩;rw [ae];split
  ·rename_i hm;rw [a0b (.inr hm)] at h;exact h _ _ _ _ H ho (Up.refl _ _)
  ·rename_i hm;rw [a0a (by simp [h0,hm])] at h;refine bK Jw rfl (by kernel_rfl) ho rfl (by simp [dJ]) (by omega) (by decide) (by decide) fun a' c' G' H' h1 h2 h3=>⟨_,_,_,rfl,h _ _ _ _ H' ?_ h2⟩;rw [bR];exact h1
theorem rt (hR:eJ H b F r){a2:Option Addr}{l2 c2:Nat}{ws:List Int} (hk:Rd 1 H a2 l2 (az ws)) (I6:l2<=1000000) (h:∀ a l c G H',bZ 1 H' a l c (az (r.reach ws)) G->Fr [] H H'->(∀ x∈G,H.size<=x)->Q (.tuple #[.slice a l c,ac 0]) H') :
  ag PP 50 #[QW b,.slice a2 l2 c2] Q H:=by
 have hw:=hR.wf;have OJ:=RH.all_len hw;have Sc:=fH hw.objs;have Tn:=cJ hw.objs hw.w0;have JY:=hw.w1;have K2:l2=ws.length:=by have:=hk.1;simpa [az] using this.symm
 have RM:∀ l:List Int,l.Nodup->(∀ k∈l,Reaches r ws k)->l.length<=r.objs.length:=fun l h1 h2=>by
  rw [←OJ];exact lg h1 fun k hk=>(RH.mem_all hw).2 (h2 k hk).there
 apply N2;dsimp only [aL,bk,aC,cq,ah,bW,ak,aX,ay,bc,ac,bf,cL,av,bm,cD,am,aJ,bM,ax,bJ,aI];simp only [ae,bq,bn,a0l,a0f];refine ⟨fun w H'=>∃(i:Nat) (a:Option Addr) (l c:Nat) (G:aS) (fl:List Int),w=[.slice a l c,ac i]∧i<=l2∧bZ 1 H' a l c (az fl) G∧Fr [] H H'∧(∀ x∈G,H.size<=x)∧fl.Nodup∧(∀ k∈fl,Reaches r ws k)∧∀ w∈ws.take i,bD r w≠0->bD r w∈fl,fun w _=>match w with
  | [_,.int _ i]=>(l2-i).toNat
  | _=>0,⟨0,none,0,0,[],[],rfl,a07 _,bZ.nil 1 H,Fr.refl _ _,by simp,by simp,by simp,by simp⟩,?_⟩
 rintro w H1 ⟨i,a,l,c,G,fl,rfl,hi,ho,hf,hG,hnd,SM,OZ⟩ _;have Jz:l=fl.length:=by have:=ho.len;simpa [az] using this.symm
 have cj:=RM fl hnd SM;refine ⟨_,_,_,_,rfl,cd (fun an=>?_) fun an=>?_⟩
 ·have JC:=hk.fr' hf (by simp);obtain ⟨p,rfl,aj,be⟩:=JC.int (i:=(i:Int)) (by omega) an;rw [a0j] at aj be;have lj:ws.take (i+1)=ws.take i++[ws.getD i 0]:=by rw [a1i];simp [be]
  have hmem:ws.getD i 0∈ws:=by
   have:ws.getD i 0=ws[i]:=by simp [be]
   rw [this];exact a04 be
  have e:IntKind.wrap .i64 ((i:Int)+1)=((i+1:Nat):Int):=by rw [ao (by omega) (by omega)];omega
  refine ⟨⟨by omega,an⟩,_,rfl,_,by rw [a0j,a0y];exact aj,?_⟩;refine rg (hR.fr hf (bU.nil_right _)) ⟨_,rfl,?_⟩;refine qT ho (by omega) fun a' l' c' G' H2 h1 h2=>⟨_,_,_,rfl,?_⟩;have o3:=Up.fresh hf h2 hG;rw [e];refine ⟨⟨i+1,a',l',c',G',ig fl (bD r (ws.getD i 0)),rfl,by omega,h1,o3.1,o3.2,kF hnd _,fun k RB=>?_,fun w JY UE=>?_⟩,by simp;omega⟩
  ·rcases ij.1 RB with h3 | ⟨rfl,h3⟩
   ·exact SM k h3
   ·exact .root hmem h3
  ·rw [lj] at JY;rw [ij];rcases a0T.1 JY with h3 | h3
   ·exact .inl (OZ w h3 UE)
   ·simp only [a0A] at h3;subst h3;exact .inr ⟨rfl,UE⟩
 ·have Oe:ws.take i=ws:=a0Y (by omega);rw [Oe] at OZ;refine ⟨fun w H'=>∃(i:Nat) (a:Option Addr) (l c:Nat) (G:aS) (fl:List Int),w=[.slice a l c,ac i]∧i<=fl.length∧bZ 1 H' a l c (az fl) G∧Fr [] H H'∧(∀ x∈G,H.size<=x)∧fl.Nodup∧(∀ k∈fl,Reaches r ws k)∧(∀ w∈ws,bD r w≠0->bD r w∈fl) ∧
    ∀ o∈r.objs,o.oop∈fl.take i->(bD r o.cls≠0->bD r o.cls∈fl)∧(o.fmt=0->∀ w∈o.slots,bD r w≠0->bD r w∈fl),fun w _=>match w with
   | [_,.int _ i]=>(r.objs.length-i).toNat
   | _=>0,⟨0,a,l,c,G,fl,rfl,a07 _,ho,hf,hG,hnd,SM,OZ,by simp⟩,?_⟩
  clear Jz cj ho hf hG hnd SM OZ an;rintro w H2 ⟨j,a,l,c,G,fl,rfl,hj,ho,hf,hG,hnd,SM,OZ,D7⟩ _;have Jz:l=fl.length:=by have:=ho.len;simpa [az] using this.symm
  have cj:=RM fl hnd SM;refine ⟨_,_,_,_,rfl,cd (fun an=>?_) fun an=>?_⟩
  ·obtain ⟨p,rfl,aj,be⟩:=ho.rd.int (i:=(j:Int)) (by omega) an;rw [a0j] at aj be;refine ⟨⟨by omega,an⟩,_,rfl,_,by rw [a0j,a0y];exact aj,?_⟩;have hx:fl.getD j 0=fl[j]:=by simp [be]
   have hxm:fl[j]∈fl:=a04 be;have lj:fl.take (j+1)=fl.take j++[fl[j]]:=by rw [a1i];simp [be]
   rw [hx];have hRx:=SM _ hxm;obtain ⟨o,JM⟩:∃ o,aT r.objs fl[j]=some o:=by
    cases h1:aT r.objs fl[j] with
    | none=>exact absurd h1 hRx.there
    | some o=>exact ⟨o,rfl⟩
   have Ry:=(aR JM).1;have Z4:=(aR JM).2;have hRo:Reaches r ws o.oop:=by rw [Z4];exact hRx
   have Jp:=(hw.objs.good o Ry).many;refine lF (hR.fr hf (bU.nil_right _)) ?_;have J1:r.clsAt fl[j]=(o.cls,0):=by unfold RH.clsAt;rw [JM]
   rw [J1];refine ⟨_,_,rfl,?_⟩;refine rg (hR.fr hf (bU.nil_right _)) ⟨_,rfl,?_⟩;refine qT ho (by omega) fun a1 l1 c1 G1 H3 IN JT=>⟨_,_,_,rfl,?_⟩;have RE:=Up.fresh hf JT hG;dsimp only at IN;obtain ⟨t1,Uz⟩:=mu fl (bD r o.cls);have Vi:=kF hnd (bD r o.cls);have a1A:∀ k∈ig fl (bD r o.cls),Reaches r ws k:=fun k hk=>by
    rcases ij.1 hk with h4 | ⟨rfl,h4⟩
    ·exact SM k h4
    ·exact .cls hRo Ry h4
   have uF:bD r o.cls≠0->bD r o.cls∈ig fl (bD r o.cls):=fun h4=>ij.2 (.inr ⟨rfl,h4⟩);generalize ig fl (bD r o.cls)=fl1 at *;have hfl1:l1=fl1.length:=by have:=IN.len;simpa [az] using this.symm
   have UD:fl.length<=fl1.length:=by rw [Uz];simp
   obtain ⟨p1,rfl,RP,_⟩:=IN.rd.int (i:=(j:Int)) (by omega) (by omega);rw [a0j] at RP;have Oq:fl1.getD j 0=fl[j]:=by rw [Uz];simp [a2x be,be]
   rw [Oq] at RP;refine ⟨⟨by omega,by omega⟩,_,rfl,_,by rw [a0j,a0y];exact RP,?_⟩;refine lX (hR.fr RE.1 (bU.nil_right _)) ?_;have zw:r.size fl[j]=((o.slots.length:Int),o.fmt,0):=by unfold RH.size;rw [JM]
   rw [zw];refine ⟨_,_,_,rfl,?_⟩;have fin:∀ (a:Option Addr) (l c:Nat) (G:aS) (fl2:List Int) (t:List Int) (H4:au),bZ 1 H4 a l c (az fl2) G->Fr [] H H4->(∀ x∈G,H.size<=x)->fl2.Nodup->(∀ k∈fl2,Reaches r ws k)->fl2=fl1++t->(o.fmt=0->∀ w∈o.slots,bD r w≠0->bD r w∈fl2) ->
     (∃(i:Nat) (a':Option Addr) (l' c':Nat) (G':aS) (fl':List Int),[Value.slice a l c,ac (IntKind.wrap .i64 ((j:Int)+1))]=[.slice a' l' c',ac i]∧i<=fl'.length∧bZ 1 H4 a' l' c' (az fl') G'∧Fr [] H H4∧(∀ x∈G',H.size<=x)∧fl'.Nodup∧(∀ k∈fl',Reaches r ws k)∧(∀ w∈ws,bD r w≠0->bD r w∈fl') ∧
      ∀ o∈r.objs,o.oop∈fl'.take i->(bD r o.cls≠0->bD r o.cls∈fl')∧(o.fmt=0->∀ w∈o.slots,bD r w≠0->bD r w∈fl')):=by
    intro a l c G fl2 t H4 k1 k2 k3 k4 k5 k6 k7;have e:IntKind.wrap .i64 ((j:Int)+1)=((j+1:Nat):Int):=by rw [ao (by omega) (by omega)];omega
    have ff:∀ k∈fl,k∈fl2:=fun k hk=>by rw [k6,Uz];simp [hk]
    have a1B:fl2.take (j+1)=fl.take (j+1):=by
     rw [k6,Uz,a18,a2J (by omega)]
    refine ⟨j+1,a,l,c,G,fl2,by rw [e],by rw [k6,Uz];simp;omega,k1,k2,k3,k4,k5,fun w h1 h2=>ff _ (OZ w h1 h2),fun o' xB hm=>?_⟩;rw [a1B,lj] at hm;rcases a0T.1 hm with h4 | h4
    ·have:=D7 o' xB h4;exact ⟨fun h5=>ff _ (this.1 h5),fun h5 w h6 h7=>ff _ (this.2 h5 w h6 h7)⟩
    ·simp only [a0A] at h4
     have:o'=o:=by
      have h5:=cN hw.objs xB;rw [h4,JM] at h5;exact (Option.some.inj h5).symm
     subst this;exact ⟨fun h5=>by rw [k6];simp [uF h5],k7⟩
   refine ⟨fun w H'=>∃(i:Nat) (a:Option Addr) (l c:Nat) (G:aS) (fl2 t:List Int),w=[.slice a l c,ac i]∧i<=o.slots.length∧bZ 1 H' a l c (az fl2) G∧Fr [] H H'∧(∀ x∈G,H.size<=x)∧fl2.Nodup∧(∀ k∈fl2,Reaches r ws k)∧fl2=fl1++t∧(o.fmt=0->∀ w∈o.slots.take i,bD r w≠0->bD r w∈fl2),fun w _=>match w with
    | [_,.int _ i]=>(o.slots.length-i).toNat
    | _=>0,⟨0,_,l1,c1,G1,fl1,[],rfl,a07 _,IN,RE.1,RE.2,Vi,a1A,by simp,by simp⟩,?_⟩
   rintro w H4 ⟨q,a2',l2',c2',G2,fl2,t2,rfl,hq,JN,fa,SB,T1,T2,RI,hsl⟩ _;have hfl2:l2'=fl2.length:=by have:=JN.len;simpa [az] using this.symm
   have k8:=RM fl2 T1 T2;have hlen2:fl1.length<=fl2.length:=by rw [RI];simp
   refine ⟨_,_,_,_,rfl,cd (fun Jf=>cd (fun AT=>?_) fun AT=>?_) fun Jf=>?_⟩
   ·obtain ⟨p2,rfl,RQ,_⟩:=JN.rd.int (i:=(j:Int)) (by omega) (by omega);rw [a0j] at RQ;have At:fl2.getD j 0=fl[j]:=by rw [RI,Uz,a18];simp [a2x be,be]
    rw [At] at RQ;refine ⟨⟨by omega,by omega⟩,_,rfl,_,by rw [a0j,a0y];exact RQ,?_⟩;refine yn (hR.fr fa (bU.nil_right _)) ?_;have hqn:q<o.slots.length:=by omega
    have Yi:r.at fl[j] (q:Int)=(o.slots[q],0):=by
     unfold RH.at;rw [JM];simp only;rw [a0a (by omega)];simp [hqn]
    rw [Yi];refine ⟨_,_,rfl,rg (hR.fr fa (bU.nil_right _)) ⟨_,rfl,?_⟩⟩;refine qT JN (by omega) fun a5 l5 c5 G5 H5 ho5 TW=>⟨_,_,_,rfl,?_⟩;have Xy:=Up.fresh fa TW SB;dsimp only at ho5;have eq1:IntKind.wrap .i64 ((q:Int)+1)=((q+1:Nat):Int):=by rw [ao (by omega) (by omega)];omega
    obtain ⟨t5,ht5⟩:=mu fl2 (bD r o.slots[q]);rw [eq1];refine ⟨⟨q+1,a5,l5,c5,G5,ig fl2 (bD r o.slots[q]),t2++t5,rfl,by omega,ho5,Xy.1,Xy.2,kF T1 _,fun k hk=>?_,by rw [ht5,RI,a18],fun h6 w JY UE=>?_⟩,by simp;omega⟩
    ·rcases ij.1 hk with h6 | ⟨rfl,h6⟩
     ·exact T2 k h6
     ·exact .slot hRo Ry AT (a04 hqn) h6
    ·rw [a1i] at JY;rw [ij];rcases a0T.1 JY with h7 | h7
     ·exact .inl (hsl h6 w h7 UE)
     ·simp [hqn] at h7;subst h7;exact .inr ⟨rfl,UE⟩
   ·exact ⟨fin _ _ _ _ _ _ _ JN fa SB T1 T2 RI fun h6=>absurd h6 AT,by simp;rw [ao (by omega) (by omega)];omega⟩
   ·refine ⟨fin _ _ _ _ _ _ _ JN fa SB T1 T2 RI fun h6 w JY UE=>hsl h6 w ?_ UE,by simp;rw [ao (by omega) (by omega)];omega⟩;rw [a0Y (by omega)];exact JY
  ·have hclosed:Closed3 r ws fl:=by
    have TJ:j=fl.length:=by omega
    subst TJ;rw [a29] at D7;exact ⟨SM,OZ,fun o ho hm=>(D7 o ho hm).1,fun o ho hm=>(D7 o ho hm).2⟩
   have Jw:bd PP 25=some (1,8,some (ac 0)):=by kernel_rfl
   refine LV (hR.fr hf (bU.nil_right _)) fun aa la ca Ga H3 hoa Tt hGa=>⟨_,_,_,rfl,?_⟩;have S0:la=r.all.length:=by have:=hoa.len;simpa [az] using this.symm
   refine ⟨fun w H'=>∃(i:Nat) (a:Option Addr) (l c:Nat) (G:aS),w=[.slice a l c,ac i]∧i<=la∧bZ 1 H' a l c (az ((r.all.take i).filter fun k=>decide (k∈fl))) G∧Fr [] H3 H'∧(∀ x∈G,H3.size<=x),fun w _=>match w with
    | [_,.int _ i]=>(la-i).toNat
    | _=>0,⟨0,none,0,0,[],rfl,a07 _,by simpa [az] using bZ.nil 1 H3,Fr.refl _ _,by simp⟩,?_⟩
   rintro w H4 ⟨q,a4,l4,c4,G4,rfl,hq,Ok,uH,V2⟩ _;have hl4:l4=((r.all.take q).filter fun k=>decide (k∈fl)).length:=by have:=Ok.len;simpa [az] using this.symm
   have hl4b:l4<=la:=by
    have h1:=a2w (fun k=>decide (k∈fl)) (r.all.take q);rw [a1q] at h1;omega
   refine ⟨_,_,_,_,rfl,cd (fun an=>?_) fun an=>?_⟩
   ·have a1E:=hoa.fr uH (by simp);have T3:=(ho.fr Tt (by simp)).fr uH (by simp);obtain ⟨p,rfl,aj,be⟩:=a1E.rd.int (i:=(q:Int)) (by omega) an;rw [a0j] at aj be;have hx:r.all.getD q 0=r.all[q]:=by simp [be]
    have lj:r.all.take (q+1)=r.all.take q++[r.all[q]]:=by rw [a1i];simp [be]
    have e:IntKind.wrap .i64 ((q:Int)+1)=((q+1:Nat):Int):=by rw [ao (by omega) (by omega)];omega
    rw [hx] at aj;have Te:aq H4 (p.add (Int.toNat (q:Int)*1))=some (ac r.all[q]):=by rw [a0j,a0y];exact aj
    refine ⟨⟨by omega,an⟩,_,rfl,_,Te,BY T3.rd (by omega) ⟨_,rfl,?_⟩⟩;rw [ae,e];refine cd (fun hm=>?_) fun hm=>?_
    ·refine ⟨⟨by omega,an⟩,_,rfl,_,Te,?_⟩;refine bK Jw rfl (by kernel_rfl) Ok rfl (by simp [dJ]) (by omega) (by decide) (by decide) fun a5 c5 G5 H5 h1 h2 h3=>⟨_,_,_,rfl,?_⟩;have o3:=Up.fresh uH h2 V2;refine ⟨⟨q+1,a5,l4+1,c5,G5,rfl,by omega,?_,o3.1,o3.2⟩,by simp;omega⟩;rw [lj,a2T,bR];simpa [hm,az] using h1
    ·refine ⟨⟨q+1,a4,l4,c4,G4,rfl,by omega,?_,uH,V2⟩,by simp;omega⟩;rw [lj,a2T];simpa [hm] using Ok
   ·rw [a0Y (by omega),hclosed.filter] at Ok;exact h _ _ _ _ H4 Ok (hf.trans (Tt.trans uH)) fun x hx=>a0O (hf.trans Tt).1 (V2 x hx)
theorem Nr (hR:eJ H b F r){a2:Option Addr}{l2 c2:Nat}{ws:List Int} (hk:Rd 1 H a2 l2 (az ws)) (I6:l2<=1000000) (h:∀ H' F',eJ H' b F' (r.keep (r.reach ws)).2->Up F H F' H'->Q (nM (r.keep (r.reach ws)).1) H') :
  ag PP 335 #[QW b,.slice a2 l2 c2] Q H:=by
 have hw:=hR.wf;have OJ:=RH.all_len hw;have Sc:=fH hw.objs;have Tn:=cJ hw.objs hw.w0;have JY:=hw.w1;apply HX;dsimp only [ah,bW,dM,ac,av,am,bJ];refine rt hR hk I6 fun a l c G H1 ho hf hG=>⟨_,_,_,_,rfl,?_⟩;simp only [bn,ae];rw [a0a (by decide)];have hl:l=(r.reach ws).length:=by have:=ho.len;simpa [az] using this.symm
 have Wl:(r.reach ws).length<=r.all.length:=a2w _ _;refine Gn (hR.fr hf (bU.nil_right _)) ho.rd (by omega) fun H2 F2 h1 h2=>⟨_,_,_,rfl,h H2 F2 h1 (Up.trans ⟨hf.of_nil,fun _ hb=>.inl hb⟩ h2)⟩
end
def nW (H:au) (b:Nat) (F:aS) (s:SP):Prop:=∃ hb a l c F1 F2 po b5 b6 b7,F=b :: (F1++F2)∧b∉F1∧b∉F2∧bU F1 F2 ∧
 bI H b #[QW hb,ac s.king,.slice a l c,.bool s.op,.pointer po,ac b5,ac b6,ac b7]∧eJ H hb F1 s.h∧bZ 1 H a l c (az s.stack) F2∧WFS s ∧
 (s.op=true->po=some ⟨hb,0,none⟩∧b5=s.born∧b6=s.turn∧b7=s.mark)
theorem nW.wf {H:au}{b:Nat}{F:aS}{s:SP} (h:nW H b F s):WFS s:=by
 obtain ⟨_,_,_,_,_,_,_,_,_,_,_,_,_,_,_,_,_,h,_⟩:=h;exact h
theorem nW.lt {H:au}{b:Nat}{F:aS}{s:SP} (h:nW H b F s):∀ x∈F,x<H.size:=by
 obtain ⟨hb,a,l,c,F1,F2,po,b5,b6,b7,rfl,h1,h2,h3,hB,hR,hO,_⟩:=h;intro x hx;rcases a0E.1 hx with rfl | hx
 ·exact hB.lt
 ·rcases a0T.1 hx with hx | hx
  ·exact hR.lt x hx
  ·exact hO.lt x hx
theorem nW.fr {H H':au}{b:Nat}{F G:aS}{s:SP} (h:nW H b F s) (hf:Fr G H H') (hd:bU F G):nW H' b F s:=by
 obtain ⟨hb,a,l,c,F1,F2,po,b5,b6,b7,rfl,h1,h2,h3,hB,hR,hO,hw,ho⟩:=h;exact ⟨hb,a,l,c,F1,F2,po,b5,b6,b7,rfl,h1,h2,h3,hB.fr hf (hd b (by simp)),hR.fr hf (hd.mono (fun x hx=>by simp [hx]) fun _ h=>h),hO.fr hf (hd.mono (fun x hx=>by simp [hx]) fun _ h=>h),hw,ho⟩
section
variable {H:au}{b:Nat}{F F':aS}{s:SP}{Q:QT}
theorem EA {words oops:Int} (gw:¬ (0<=words∧words<=1048576∧0<=oops∧oops<=65536)->Q (.tuple #[.pointer none,ac 1]) H)
  (h:(0<=words∧words<=1048576∧0<=oops∧oops<=65536)->∀ b F H',nW H' b F ⟨⟨words,oops,0,0,0,[]⟩,0,[],false,0,0,0⟩->Fr [] H H'->(∀ x∈F,H.size<=x)->Q (.tuple #[QW b,ac 0]) H'):ag PP 91 #[ac words,ac oops] Q H:=by
 apply L8;dsimp only [aL,aP,ah,fN,ac,av,am,aJ,ax,bJ];simp only [bn,ae];refine NZ (fun hb=>⟨_,_,rfl,?_⟩) fun hg H1 hR hf=>⟨_,_,rfl,?_⟩
 ·rw [a0b (by decide)];exact gw hb
 ·rw [a0a (by decide)];have an:=hR.lt;have hs:=an H.size (by simp);refine h hg H1.size (H1.size :: ([H.size]++[])) _ ⟨H.size,none,0,0,[H.size],[],none,0,0,0,rfl,by simp;omega,by simp,bU.nil_right _,bI.new _ _ _,hR.fr (Fr.push [] _ _) (bU.nil_right _),bZ.nil 1 _,?_,by simp⟩ hf.more (by simp;have:=hf.1;omega);exact ⟨hR.wf,by simp,by simp,by simp,by simp⟩
theorem Aj (hS:nW H b F s){k:Int} (h:∀ H',nW H' b F (s.crown k).2->Fr F H H'->Q (ac (s.crown k).1) H'):ag PP 99 #[QW b,ac k] Q H:=by
 have JZ:=hS;obtain ⟨hb,a,l,c,F1,F2,po,b5,b6,b7,rfl,h1,h2,h3,hB,hR,hO,hw,ho⟩:=hS;have Jm:aq H ⟨b,0,none⟩=some (QW hb):=hB.cell 0;apply NW;dsimp only [ah,ak,aF,ac,aE,cD,am,bj];simp only [ae,a0P,a0f,a0l,a0L,bh,aV,bx,bA,bi,bB,bt,aW,bv,bu,bg,bz,a06,a1a,a1d,aB,a0K,a0y,aM,aG,aY,a0p,a0C,bq,bn,Jm];refine lF hR ⟨_,_,rfl,?_⟩;unfold SP.crown at h;by_cases he:(s.h.clsAt k).2=0
 ·rw [a0a (by simpa using he)];simp only [he,a3Q,not_true_eq_false,if_false] at h;refine ⟨hB.wr (by simp),h _ ⟨hb,a,l,c,F1,F2,po,b5,b6,b7,rfl,h1,h2,h3,hB.set 1 (ac k),hR.fr (Fr.set (F:=[b]) (by simp)) (fun x hx hn=>h1 (by simp only [a0A] at hn;rw [←hn];exact hx)),hO.fr (Fr.set (F:=[b]) (by simp)) (fun x hx hn=>h2 (by simp only [a0A] at hn;rw [←hn];exact hx)),?_,ho⟩ (Fr.set (by simp))⟩
  have:∃ o,aT s.h.objs k=some o:=by
   unfold RH.clsAt at he;cases ho:aT s.h.objs k with
   | none=>rw [ho] at he;simp at he
   | some o=>exact ⟨o,rfl⟩
  obtain ⟨o,JM⟩:=this;have hg:=hw.h.objs.good o (aR JM).1;have g1:=hg.oop1;have g2:=hg.oop2;have g3:=hw.h.o1;rw [(aR JM).2] at g1 g2;exact { hw with king0:=by simp;omega,king1:=by simp;omega }
 ·rw [a0b (by simpa using he)];simp only [he,a3Q,not_false_eq_true,if_true] at h;exact h H JZ (Fr.refl _ _)
theorem vr (hS:nW H b F s){i w:Int} (h:∀ H',nW H' b F (s.setRoot i w).2->Fr F H H'->Q (ac (s.setRoot i w).1) H'):ag PP 242 #[QW b,ac i,ac w] Q H:=by
 obtain ⟨hb,a,l,c,F1,F2,po,b5,b6,b7,rfl,h1,h2,h3,hB,hR,hO,hw,ho⟩:=hS;have Jm:aq H ⟨b,0,none⟩=some (QW hb):=hB.cell 0;have uF:aq H ⟨b,1,none⟩=some (ac s.king):=hB.cell 1;apply EH;dsimp only [aC,ah,ay,aF,ac,aE,cD,am];simp only [ae,a0P,a0f,a0l,a0L,bh,aV,bx,bA,bi,bB,bt,aW,bv,bu,bg,bz,a06,a1a,a1d,aB,a0K,a0y,aM,aG,aY,a0p,a0C,bq,bn,Jm,uF];refine tZ hR fun H1 If bw=>?_;simp only [ae,a0P,a0f,a0l,a0L,bh,aV,bx,bA,bi,bB,bt,aW,bv,bu,bg,bz,a06,a1a,a1d,aB,a0K,a0y,aM,aG,aY,a0p,a0C,bq,bn];exact h H1 ⟨hb,a,l,c,F1,F2,po,b5,b6,b7,rfl,h1,h2,h3,hB.fr bw h1,If,hO.fr bw h3.symm,{ hw with h:=kW hw.h _ _ _ },ho⟩ (bw.mono fun x hx=>by simp [hx])
theorem oC (hS:nW H b F s) (h:∀ a l c G H',bZ 1 H' a l c (az s.roots) G->Fr [] H H'->(∀ x∈G,H.size<=x)->Q (.slice a l c) H'):ag PP 51 #[QW b] Q H:=by
 obtain ⟨hb,a,l,c,F1,F2,po,b5,b6,b7,rfl,h1,h2,h3,hB,hR,hO,hw,ho⟩:=hS;have uF:aq H ⟨b,1,none⟩=some (ac s.king):=hB.cell 1;have w7:aq H ⟨b,2,none⟩=some (.slice a l c):=hB.cell 2;have OT:∀ o,aq (H.push o) ⟨b,2,none⟩=some (.slice a l c):=fun o=>(eD hB.lt).trans w7;have hk0:=hw.king0;have JC:=hw.king1;have hl:l=s.stack.length:=by have:=hO.len;simpa [az] using this.symm
 have i7:bd PP 30=some (1,8,some (ac 0)):=by kernel_rfl
 apply Mt;dsimp only [aL,ay,aK,ac,av,aE,aJ,bM,ax,aI];have e1:IntKind.wrap .i64 (4*s.king)=4*s.king:=ao (by omega) (by omega);simp only [ae,a0P,a0f,a0l,a0L,bh,aV,bx,bA,bi,bB,bt,aW,bv,bu,bg,bz,a06,a1a,a1d,aB,a0K,a0y,aM,aG,aY,a0p,a0C,bq,bn,uF,w7,OT,e1];have fb:bZ 1 (H.push (.cells #[ac (4*s.king)] 26)) (some ⟨H.size,0,none⟩) 1 1 (az [4*s.king]) [H.size]:=⟨by simp [az],a0U _,.inr ⟨H.size,_,rfl,rfl,bI.new _ _ _,by simp,by simp [az]⟩⟩;have hm:=hw.many;refine dz i7 rfl (by kernel_rfl) fb (hO.fr (Fr.push [] _ _) (by simp)).rd fO (by omega) (by decide) (by decide) fun a' c' F' H' g1 g2 g3=>⟨_,_,_,rfl,?_⟩;have o3:=Up.fresh (H:=H) (Fr.push [] H _) g2 (by simp);refine h _ _ _ F' H' ?_ o3.1 o3.2;have e2:az s.roots=az [4*s.king]++az s.stack:=by simp [az,SP.roots]
 rw [e2];exact g1
theorem nW.upd (hS:nW H b F s):∃ hb F1,eJ H hb F1 s.h∧aq H ⟨b,0,none⟩=some (QW hb)∧aq H ⟨b,3,none⟩=some (.bool s.op)∧(∀ x∈F1,x∈F)∧b∉F1 ∧
  ∀ H' F1' r',eJ H' hb F1' r'->Up F1 H F1' H'->∃ F',nW H' b F' { s with h:=r' }∧Up F H F' H':=by
 have an:=hS.lt;obtain ⟨hb,a,l,c,F1,F2,po,b5,b6,b7,rfl,h1,h2,h3,hB,hR,hO,hw,ho⟩:=hS;refine ⟨hb,F1,hR,hB.cell 0,hB.cell 3,fun x hx=>by simp [hx],h1,fun H' F1' r' RC hu=>?_⟩;refine ⟨b :: (F1'++F2),⟨hb,a,l,c,F1',F2,po,b5,b6,b7,rfl,fun hx=>?_,h2,fun x hx At=>?_,hB.fr hu.1 h1,RC,hO.fr hu.1 h3.symm,{ hw with h:=RC.wf },ho⟩,hu.1.mono fun x hx=>by simp [hx],fun x hx=>?_⟩
 ·rcases hu.2 b hx with h4 | h4
  ·exact h1 h4
  ·have:=an b (by simp);omega
 ·rcases hu.2 x hx with h4 | h4
  ·exact h3 x h4 At
  ·have:=an x (by simp [At]);omega
 ·rcases a0E.1 hx with rfl | hx
  ·exact .inl (by simp)
  ·rcases a0T.1 hx with hx | hx
   ·exact (hu.2 x hx).imp (fun h4=>by simp [h4]) id
   ·exact .inl (by simp [hx])
theorem kK {r:RH} (hw:WFH r) (cls n f:Int):0<=(r.alloc cls n f).1.1∧(r.alloc cls n f).1.1<=65537:=by
 have h1:=hw.o1;unfold RH.alloc;split
 ·simp
 split
 ·simp
 split
 ·simp
 rename_i h4;have hl:=eX hw.objs hw.o1 (by omega);split
 ·simp
 ·simp;omega
theorem oP (hS:nW H b F s){cls n f:Int} (h:∀ H' F',nW H' b F' (s.alloc cls n f).2->Up F H F' H'->Q (wK (s.alloc cls n f).1) H'):ag PP 266 #[QW b,ac cls,ac n,ac f] Q H:=by
 obtain ⟨hb,F1,hR,Jm,JO,ff,Of,s6⟩:=hS.upd;have pe:=hS.wf.h;have hbd:=kK pe cls n f;apply HK;dsimp only [aA,cq,ah,bW,ak,C6,aF,ac,av,aE,cD,am,ax,aI];simp only [bn,ae,a0l,a0f];refine ⟨_,rfl,_,Jm,?_⟩;refine qq hR fun H1 F1' If JT=>⟨_,_,rfl,?_⟩;obtain ⟨F',Om,hU1⟩:=s6 H1 F1' _ If JT;unfold SP.alloc at h;have e1:IntKind.wrap .i64 (4*(s.h.alloc cls n f).1.1)=4*(s.h.alloc cls n f).1.1:=ao (by omega) (by omega);rw [e1];refine cd (fun ic=>?_) fun ic=>?_
 ·rw [a0b (.inl ic)] at h;exact h H1 F' Om hU1
 ·have heq:(s.h.alloc cls n f).1.2=23:=a0v fun hc=>ic hc;have R3:=qr heq;have RF:nW H1 b F' s:=by
   have:({ s with h:=(s.h.alloc cls n f).2 }:SP)=s:=by rw [R3]
   rw [this] at Om;exact Om
  obtain ⟨k9,F2,Jn,Ss,TZ,Jr,Xz,JK⟩:=RF.upd;refine ⟨_,rfl,_,TZ,?_⟩;cases JV:s.op with
  | true =>
   rw [a0b (.inr JV)] at h;simp only [a0P];exact h H1 F' Om hU1
  | false =>
   rw [a0a (by simp [heq,JV])] at h;simp only [a0f];refine ⟨_,rfl,_,Ss,?_⟩;have XA:=RF.lt;refine oC RF fun ar lr cr G H2 Sk hf hG=>?_;have a1G:aq H2 ⟨b,0,none⟩=some (QW k9):=by
    have D0:b<H1.size:=by
     obtain ⟨_,_,_,_,_,_,_,_,_,_,_,_,_,_,hB,_⟩:=RF;exact hB.lt
    unfold aq at *;rw [hf.2 b D0 (by simp)];exact Ss
   refine ⟨_,_,_,rfl,⟨⟨a1G,trivial⟩,trivial⟩,?_⟩;have Uo:lr=s.stack.length+1:=by have:=Sk.len;simpa [az,SP.roots] using this.symm
   have hm:=RF.wf.many;refine Nr (Jn.fr hf (bU.nil_right _)) Sk.rd (by omega) fun H3 F3 Uk J0=>⟨_,_,_,rfl,trivial,?_⟩;obtain ⟨F4,Tq,hU4⟩:=JK H3 F3 _ Uk (Up.trans ⟨hf.of_nil,fun _ hb=>.inl hb⟩ J0);obtain ⟨XB,F5,W4,a1H,hc35,Oi,hnb5,RJ⟩:=Tq.upd;refine ⟨_,rfl,_,a1H,?_⟩;refine qq W4 fun H6 F6 SA hu6=>⟨_,_,rfl,?_⟩;obtain ⟨F7,W2,hU7⟩:=RJ H6 F6 _ SA hu6;have hbd2:=kK (fT pe s.reach) cls n f;have e2:IntKind.wrap .i64 (4*((s.h.keep s.reach).2.alloc cls n f).1.1)=4*((s.h.keep s.reach).2.alloc cls n f).1.1:=ao (by omega) (by omega)
   have:=h H6 F7 W2 (hU1.trans (hU4.trans hU7));unfold wK at this;rw [←e2] at this;exact this
theorem ww (hS:nW H b F s){a2:Option Addr}{l2 c2:Nat}{ws:List Int} (hk:Rd 1 H a2 l2 (az ws)) (I6:l2<=1000000000) (h:∀ H' F',nW H' b F' (s.keepW ws).2->Up F H F' H'->Q (ac (s.keepW ws).1) H'):ag PP 104 #[QW b,.slice a2 l2 c2] Q H:=by
 have JZ:=hS;have Is:=hS.lt;obtain ⟨hb,a,l,c,F1,F2,po,b5,b6,b7,rfl,h1,h2,h3,hB,hR,hO,hw,ho⟩:=hS;have w7:aq H ⟨b,2,none⟩=some (.slice a l c):=hB.cell 2;have hl:l=s.stack.length:=by have:=hO.len;simpa [az] using this.symm
 have K2:l2=ws.length:=by have:=hk.1;simpa [az] using this.symm
 have hm:=hw.many;have i7:bd PP 30=some (1,8,some (ac 0)):=by kernel_rfl
 apply EN;dsimp only [aC,ah,bP,aX,ay,aK,bc,ac,bf,bX,av,bm,aE,cD,bM,bj,aI];unfold SP.keepW at h;simp only [bq,ae,a0l,a0f];refine ⟨fun w H'=>H'=H∧∃ i:Nat,w=[ac i]∧i<=l2∧∀ w∈ws.take i,dL w,fun w _=>match w with
  | [.int _ i]=>(l2-i).toNat
  | _=>0,⟨rfl,0,rfl,a07 _,by simp⟩,?_⟩
 rintro w H1 ⟨rfl,i,rfl,hi,b8⟩ _;refine ⟨_,rfl,cd (fun an=>?_) fun an=>?_⟩
 ·obtain ⟨p,rfl,aj,be⟩:=hk.int (i:=(i:Int)) (by omega) an;rw [a0j] at aj be;have hx:ws.getD i 0=ws[i]:=by simp [be]
  have lj:ws.take (i+1)=ws.take i++[ws[i]]:=by rw [a1i];simp [be]
  have e:IntKind.wrap .i64 ((i:Int)+1)=((i+1:Nat):Int):=by rw [ao (by omega) (by omega)];omega
  rw [hx] at aj;refine ⟨⟨by omega,an⟩,_,rfl,_,by rw [a0j,a0y];exact aj,gn ⟨_,rfl,cd (fun h0=>?_) fun h0=>?_⟩⟩
  ·rw [a0b ⟨ws[i],a04 be,fun hc=>hc h0⟩] at h;exact h H1 _ JZ (Up.refl _ _)
  ·rw [e];refine ⟨⟨rfl,i+1,rfl,by omega,?_⟩,by simp;omega⟩;rw [lj];intro w hw;rcases a0T.1 hw with h4 | h4
   ·exact b8 w h4
   ·simp only [a0A] at h4;rw [h4];exact h0
 ·have Oe:ws.take i=ws:=a0Y (by omega);rw [Oe] at b8;rw [a0a (by rintro ⟨w,h4,h5⟩;exact h5 (b8 w h4))] at h;have e:IntKind.wrap .i64 ((l:Int)+(l2:Int))=(l:Int)+l2:=ao (by omega) (by omega);refine ⟨_,rfl,_,_,_,w7,?_⟩;rw [e];refine cd (fun SW=>?_) fun SW=>?_
  ·rw [a0b (by omega)] at h;exact h H1 _ JZ (Up.refl _ _)
  ·rw [a0a (by omega)] at h;refine ⟨_,rfl,_,_,_,w7,?_⟩;refine dz i7 rfl (by kernel_rfl) hO hk fO (by omega) (by decide) (by decide) fun a' c' F3 H2 g1 g2 g3=>⟨_,_,_,rfl,?_⟩;have Jh:b∉F3:=fun hx=>by
    rcases g2.2 b hx with h4 | h4
    ·exact h2 h4
    ·have:=Is b (by simp);omega
   have Da:=hB.fr g2.1 h2;refine ⟨_,rfl,Da.wr (by simp),h _ (b :: (F1++F3)) ⟨hb,a',l+l2,c',F1,F3,po,b5,b6,b7,rfl,h1,Jh,fun x hx At=>?_,Da.set 2 (.slice a' (l+l2) c'),?_,?_,?_,ho⟩ ⟨?_,fun x hx=>?_⟩⟩
   ·rcases g2.2 x At with h4 | h4
    ·exact h3 x hx h4
    ·have:=Is x (by simp [hx]);omega
   ·exact (hR.fr g2.1 h3).fr (Fr.set (F:=[b]) (by simp)) (fun x hx hn=>h1 (by simp only [a0A] at hn;rw [←hn];exact hx))
   ·have h5:=g1.fr (G:=[b]) (Fr.set (a:=⟨b,2,none⟩) (v:=.slice a' (l+l2) c') (by simp)) (fun x hx hn=>Jh (by simp only [a0A] at hn;rw [←hn];exact hx));simp only;rw [bR];exact h5
   ·refine { hw with many:=by simp;omega,words:=fun w I5=>?_ };rcases a0T.1 I5 with h4 | h4
    ·exact hw.words w h4
    ·exact b8 w h4
   ·exact (g2.1.mono fun x hx=>by simp [hx]).step (by simp)
   ·rcases a0E.1 hx with rfl | hx
    ·exact .inl (by simp)
    ·rcases a0T.1 hx with hx | hx
     ·exact .inl (by simp [hx])
     ·exact (g2.2 x hx).imp (fun h4=>by simp [h4]) id
theorem uS (hS:nW H b F s){n:Int} (h:∀ H' F',nW H' b F' (s.drop n).2->Up F H F' H'->Q (ac (s.drop n).1) H'):ag PP 47 #[QW b,ac n] Q H:=by
 have JZ:=hS;have Is:=hS.lt;obtain ⟨hb,a,l,c,F1,F2,po,b5,b6,b7,rfl,h1,h2,h3,hB,hR,hO,hw,ho⟩:=hS;have w7:aq H ⟨b,2,none⟩=some (.slice a l c):=hB.cell 2;have hl:l=s.stack.length:=by have:=hO.len;simpa [az] using this.symm
 have hm:=hw.many;have hlc:=hO.2.1;have i7:bd PP 30=some (1,8,some (ac 0)):=by kernel_rfl
 apply MY;dsimp only [ah,bP,aX,aK,ac,av,aE,cD,bM,ax,bj,aI];unfold SP.drop at h;simp only [ae,a0l,a0f];refine cd (fun h4=>?_) fun h4=>?_
 ·rw [a0b (.inl h4)] at h;exact h H _ JZ (Up.refl _ _)
 refine ⟨_,rfl,_,_,_,w7,cd (fun h5=>?_) fun h5=>?_⟩
 ·rw [a0b (by omega)] at h;exact h H _ JZ (Up.refl _ _)
 rw [a0a (by omega)] at h;have e:IntKind.wrap .i64 ((l:Int)-n)=(l:Int)-n:=ao (by omega) (by omega);refine ⟨_,rfl,_,_,_,w7,_,rfl,_,_,_,w7,⟨by rw [e];omega,by rw [e];omega⟩,?_⟩;rw [e];have hln:((l:Int)-n).toNat=s.stack.length-n.toNat:=by omega
 rw [hln];have Sl:Rd 1 H a (s.stack.length-n.toNat) (az (s.stack.take (s.stack.length-n.toNat))):=by
  have hr:=hO.rd;refine ⟨by simp [az],fun ha=>by have:=hr.2.1 ha;omega,fun p hp i hi=>?_⟩;rw [hr.2.2 p hp i (by omega)];simp only [az,List.map_take];rw [a27 (by omega)]
 refine dz i7 rfl (by kernel_rfl) (bZ.nil 1 H) Sl fO (by omega) (by decide) (by decide) fun a' c' F3 H2 g1 g2 g3=>⟨_,_,_,rfl,trivial,?_⟩;have J3:∀ x∈F3,H.size<=x:=fun x hx=>(g2.2 x hx).resolve_left (by simp);have Jh:b∉F3:=fun hx=>by have:=J3 b hx;have:=Is b (by simp);omega
 have Da:=hB.fr g2.1 (by simp);refine ⟨_,rfl,Da.wr (by simp),trivial,h _ (b :: (F1++F3)) ⟨hb,a',0+(s.stack.length-n.toNat),c',F1,F3,po,b5,b6,b7,rfl,h1,Jh,fun x hx At=>?_,Da.set 2 _,?_,?_,?_,ho⟩ ⟨?_,fun x hx=>?_⟩⟩
 ·have:=J3 x At;have:=Is x (by simp [hx]);omega
 ·exact (hR.fr g2.1 (bU.nil_right _)).fr (Fr.set (F:=[b]) (by simp)) (fun x hx hn=>h1 (by simp only [a0A] at hn;rw [←hn];exact hx))
 ·have h5:=g1.fr (G:=[b]) (Fr.set (a:=⟨b,2,none⟩) (v:=.slice a' (0+(s.stack.length-n.toNat)) c') (by simp)) (fun x hx hn=>Jh (by simp only [a0A] at hn;rw [←hn];exact hx));simpa using h5
 ·exact { hw with many:=by simp;omega,words:=fun w I5=>hw.words w (a2W I5) }
 ·exact (g2.1.of_nil).step (by simp)
 ·rcases a0E.1 hx with rfl | hx
  ·exact .inl (by simp)
  ·rcases a0T.1 hx with hx | hx
   ·exact .inl (by simp [hx])
   ·exact .inr (J3 x hx)
def kL (r:RH) (k:Int):Int:=match aT r.objs k with
 | some o=>o.len
 | none=>2
theorem yz {r:RH} (hw:WFH r) (k:Int):0<=kL r k∧kL r k<=8200:=by
 unfold kL;cases ho:aT r.objs k with
 | none=>simp
 | some o =>
  have hm:=(hw.objs.good o (aR ho).1).many;have h1:=jg (n:=(o.slots.length:Int)) (fmt:=o.fmt) (by omega);have h2:=o.len_pos;have h3:o.len=lenOf o.slots.length o.fmt:=rfl;simp only;omega
theorem LA {r:RH} (hw:WFH r):∀ l:List Int,0<=(l.map (kL r)).sum∧(l.map (kL r)).sum<=8200*l.length
 | []=>by simp
 | k :: l=>by
  have h1:=LA hw l;have h2:=yz hw k;simp only [a2k,List.sum_cons,a1b]
  push_cast
  omega
theorem BI (hS:nW H b F s) (h:∀ H',Fr [] H H'->Q (wK s.room) H'):ag PP 59 #[QW b] Q H:=by
 have JZ:=hS;obtain ⟨hb,a,l,c,F1,F2,po,b5,b6,b7,rfl,h1,h2,h3,hB,hR,hO,hw,ho⟩:=hS;have Jm:aq H ⟨b,0,none⟩=some (QW hb):=hB.cell 0;have JY:=hw.h.w1;have X7:=hw.h.w0;have Tm:=hw.h.o0;have IN:=hw.h.o1;have OJ:=RH.all_len hw.h;have Sc:=fH hw.h.objs;have Tn:=cJ hw.h.objs hw.h.w0;apply MG;dsimp only [aA,aC,cq,ah,bW,dM,aX,ay,aF,bc,ac,bf,js,av,bm,aE,cD,am,aI];simp only [ae,a0l,a0f];refine ⟨_,rfl,_,Jm,?_⟩;refine oC JZ fun ar lr cr G H1 Sk hf hG=>?_;have TY:aq H1 ⟨b,0,none⟩=some (QW hb):=(hB.fr hf (by simp)).cell 0;refine ⟨_,_,_,rfl,⟨⟨TY,trivial⟩,trivial⟩,?_⟩;have Uo:lr=s.stack.length+1:=by have:=Sk.len;simpa [az,SP.roots] using this.symm
 have hm:=hw.many;refine rt (hR.fr hf (bU.nil_right _)) Sk.rd (by omega) fun a2 l2 c2 G2 H2 JN fa SB=>⟨_,_,_,_,rfl,trivial,?_⟩;have yB:=hf.trans fa;have Da:=hB.fr yB (by simp);have Jn:=hR.fr yB (bU.nil_right _);have Ss:aq H2 ⟨b,0,none⟩=some (QW hb):=Da.cell 0;have hhw:aq H2 ⟨hb,0,none⟩=some (ac s.h.words)∧aq H2 ⟨hb,1,none⟩=some (ac s.h.oops):=by
  obtain ⟨_,_,_,_,_,_,hBr,_⟩:=Jn;exact ⟨hBr.cell 0,hBr.cell 1⟩
 have K2:l2=(s.h.reach s.roots).length:=by have:=JN.len;simpa [az] using this.symm
 have Wl:(s.h.reach s.roots).length<=s.h.all.length:=a2w _ _;have hthere:∀ k∈s.h.reach s.roots,aT s.h.objs k≠none:=fun k hk=>((RH.mem_reach hw.h).1 hk).there;refine ⟨_,rfl,_,Ss,_,rfl,_,hhw.1,?_⟩;refine ⟨fun w H'=>H'=H2∧∃ i:Nat,w=[ac (s.h.words-(((s.h.reach s.roots).take i).map (kL s.h)).sum),ac i]∧i<=l2,fun w _=>match w with
  | [_,.int _ i]=>(l2-i).toNat
  | _=>0,⟨rfl,0,by simp,a07 _⟩,?_⟩
 rintro w H3 ⟨rfl,i,rfl,hi⟩ _;refine ⟨_,_,rfl,cd (fun an=>?_) fun an=>?_⟩
 ·obtain ⟨p,rfl,aj,be⟩:=JN.rd.int (i:=(i:Int)) (by omega) an;rw [a0j] at aj be;have hx:(s.h.reach s.roots).getD i 0=(s.h.reach s.roots)[i]:=by simp [be]
  have lj:(s.h.reach s.roots).take (i+1)=(s.h.reach s.roots).take i++[(s.h.reach s.roots)[i]]:=by rw [a1i];simp [be]
  have hmem:(s.h.reach s.roots)[i]∈s.h.reach s.roots:=a04 be;rw [hx] at aj;generalize (s.h.reach s.roots)[i]=k at *;refine ⟨_,rfl,_,Ss,⟨by omega,an⟩,_,rfl,_,by rw [a0j,a0y];exact aj,lX Jn ?_⟩;obtain ⟨o,JM⟩:∃ o,aT s.h.objs k=some o:=by
   cases h4:aT s.h.objs k with
   | none=>exact absurd h4 (hthere k hmem)
   | some o=>exact ⟨o,rfl⟩
  have zw:s.h.size k=((o.slots.length:Int),o.fmt,0):=by unfold RH.size;rw [JM]
  have S0:kL s.h k=o.len:=by unfold kL;rw [JM]
  have hlb2:=yz hw.h k;have Jp:=(hw.h.objs.good o (aR JM).1).many;rw [zw];refine ⟨_,_,_,rfl,trivial,lQ (by omega) (by simp only;omega) ⟨_,rfl,?_⟩⟩;have R1:=LA hw.h ((s.h.reach s.roots).take i);have TK:((s.h.reach s.roots).take i).length<=l2:=by rw [a1q];omega
  have e1:IntKind.wrap .i64 ((i:Int)+1)=((i+1:Nat):Int):=by rw [ao (by omega) (by omega)];omega
  have e2:IntKind.wrap .i64 (s.h.words-(((s.h.reach s.roots).take i).map (kL s.h)).sum-lenOf (o.slots.length:Int) o.fmt)=s.h.words-(((s.h.reach s.roots).take (i+1)).map (kL s.h)).sum:=by
   rw [lj,a2m,a4G];simp only [a2k,a26,List.sum_cons,List.sum_nil,a4w]
   have:lenOf (o.slots.length:Int) o.fmt=kL s.h k:=S0.symm;rw [this,ao (by omega) (by omega)];omega
  rw [e1];simp only;rw [e2];exact ⟨⟨trivial,i+1,rfl,by omega⟩,by simp;omega⟩
 ·refine ⟨_,rfl,_,Ss,_,rfl,_,hhw.2,?_⟩;have e:IntKind.wrap .i64 (s.h.oops-(l2:Int))=s.h.oops-(l2:Int):=ao (by omega) (by omega);rw [e,a0Y (by omega)]
  have:=h H3 yB;have hr:s.room=(s.h.words-((s.h.reach s.roots).map (kL s.h)).sum,s.h.oops-(l2:Int)):=by
   unfold SP.room SP.reach;rw [K2];rfl
  rw [hr] at this;exact this
end
end Go.Proofs.YtgjfejoohojokaaGreatDoor
