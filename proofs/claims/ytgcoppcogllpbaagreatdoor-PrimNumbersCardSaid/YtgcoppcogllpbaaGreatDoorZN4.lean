/- Lemmas for RPN: functions of the program as predicate transformers, and their contracts. -/
import Derived.Test.YtgcoppcogllpbaaGreatDoorZN3
import Derived.ProofKit
import Derived.Test.YtgcoppcogllpbaaGreatDoorCards
import Derived.Test.YtgcoppcogllpbaaGreatDoorTie
import Derived.LaidLaws
import Derived.Handed
import Derived.Lib.LaidU8
import Derived.Lib.LaidTab
set_option linter.all false
set_option maxRecDepth 100000
set_option maxHeartbeats 4000000
namespace Go.Proofs.YtgcoppcogllpbaaGreatDoor
open Kw
theorem fc {n:Int} (h:fg n):bf (2*n+1)=1:=by
 have:=aW (2*n+1)
 obtain ⟨h1,h2⟩:=h
 omega
theorem iC {n:Int} (h:fg n):iE (2*n+1)=n:=by
 unfold iE
 rw [if_pos (fc h)]
 omega
theorem hU (n:Int):(2*n+1) / 2=n:=by omega
theorem bT {r:RH}{n:Int} (h:fg n):pr r (2*n+1)=8:=by
 unfold pr xF
 rw [if_pos (fc h)]
 rfl
theorem bI (v:KV){k:Int} (h:k≠0):kk v k k=true:=by
 unfold kk mV
 rw [if_neg h,if_pos rfl]
theorem nq {k:Int} (h1:1<=k) (h2:k<=65536):bf (4*k)=3:=by
 have:=aW (4*k)
 omega
theorem jC {s:SP}{t:TB}{v:KV} (hv:KAllW s t v){k:Int}{xs:List Int} (h:kT s.h k xs):1<=k∧k<=65536:=by
 obtain ⟨o,ho,_⟩:=h
 have hm:=au ho
 have:=hv.ks.wf.h.objs.good o hm.1
 have h1:=this.oop1
 have h2:=this.oop2
 have h3:=hv.ks.wf.h.o1
 omega
theorem iZ {r:RH}{k:Int}{xs:List Int} (h:kT r k xs) (h1:1<=k) (h2:k<=65536):pr r (4*k)=10:=by
 obtain ⟨o,ho,hf,hc,_⟩:=h
 have hk:=nq h1 h2
 have e:(4*k) / 4=k:=by omega
 have eo:xF r (4*k)=(10,0):=by
  unfold xF
  rw [if_neg (by omega),if_neg (by omega),if_pos hk,e]
  unfold RH.clsAt
  rw [ho]
  simp only [hc,if_true]
  rfl
 unfold pr
 rw [eo]
 rfl
theorem jJ {r:RH}{k:Int}{xs:List Int} (h:kT r k xs) (h1:1<=k) (h2:k<=65536):gm r (4*k)=((xs.length:Int),1):=by
 obtain ⟨o,ho,hf,hc,rfl⟩:=h
 unfold gm
 rw [if_pos (nq h1 h2)]
 have e:(4*k) / 4=k:=by omega
 unfold RH.size
 rw [e,ho]
 simp only [hf]
theorem tp {r:RH}{k:Int}{xs:List Int} (h:kT r k xs) (h1:1<=k) (h2:k<=65536){i:Nat} (hi:i<xs.length):lw r (4*k) (i:Int)=xs.getD i 0:=by
 obtain ⟨o,ho,hf,hc,rfl⟩:=h
 unfold lw
 rw [dY h1 h2]
 unfold RH.at
 rw [ho]
 simp only
 rw [if_neg (by omega)]
 simp
section
variable {s s':SP}{t t':TB}{v:KV}{r:Int}
theorem py (hv:KAllW s t v){k n:Int}{x:ByteArray}{f:Nat}{ar:List Int}{res:Int × Int} (he:eq (oP k) x=some (n,.fn f)) (hn:(ar.length:Int)=n) (hof:∀ w∈r :: ar,pr s.h w≠0) (hkind:kk v k (pr s.h r)=true) (hsh:im s.h k r=true)
  (hc:∀ {H:ae}{b:Nat}{F:aA}{a:Option Addr}{l c:Nat}{Q:QT},PK H b F s t->dG H->Rd 1 H a l (aj ar)->(∀ p,a=some p->p.block∉F)->(∀ H' F',PK H' b F' s' t'->Up F H F' H'->Q (.tuple #[.int .i64 res.1,.int .i64 res.2]) H')->ac PP f #[cv b r a l c] Q H) :
  PrimS s t k x r ar res s' t':=by
 refine ⟨fun {H b F a l c Q} hK ht hr ho hl h=>?_⟩
 have hlen:l=ar.length:=by have:=hr.1;simpa [aj] using this.symm
 refine ye hK hv hr hl he (by simp) (by omega) hof hkind hsh fun H' n0 rr f' g' hh f1 hq=>?_
 have hq:(Value.func (.func f') g' hh)=.func (.func f) #[] #[]:=hq
 cases hq
 show ac PP f #[cv b r a l c] _ _
 refine hc (hK.nil f1) (ht.fr f1 (by simp)) (Rd.nilF hr f1) ho fun H2 F2 hK2 u2=>⟨_,_,rfl,h H2 F2 hK2 ⟨?_,fun y hy=>(u2.2 y hy).imp id fun h1=>Nat.le_trans f1.1 h1⟩⟩
 exact ⟨Nat.le_trans f1.1 u2.1.1,fun y hy hn=>by rw [u2.1.2 y (Nat.lt_of_lt_of_le hy f1.1) hn,f1.2 y hy (by simp)]⟩
theorem dm (hv:KAllW s t v){k n:Int}{x:ByteArray}{f:Nat}{ar:List Int}{res:Int × Int} (he:eq (oP k) x=some (n,.fn f)) (hn:(ar.length:Int)=n) (hof:∀ w∈r :: ar,pr s.h w≠0) (hkind:kk v k (pr s.h r)=true) (hsh:im s.h k r=true)
  (hc:∀ {H:ae}{b:Nat}{F:aA}{a:Option Addr}{l c:Nat}{Q:QT},PK H b F s t->Rd 1 H a l (aj ar)->(∀ H',Fr [] H H'->Q (.tuple #[.int .i64 res.1,.int .i64 res.2]) H')->ac PP f #[cv b r a l c] Q H) :
  PrimS s t k x r ar res s t :=
 py hv he hn hof hkind hsh fun hK _ hr _ h=>hc hK hr fun H' f=>h H' _ (hK.nil f) (Up.of_nil f)
theorem cP (hv:KAllW s t v){x:ByteArray}{g:Nat}{f:Int->Int->Int × Int} (he:eq (oP 8) x=some (1,.clo 301 g)) (hg:sJ g f){n m:Int} (hn:fg n) (hm:fg m) :
  PrimS s t 8 x (2*n+1) [2*m+1] (if (f n m).2≠0 then (0,(f n m).2) else mH (f n m).1) s t:=by
 refine ⟨fun {H b F a l c Q} hK ht hr ho hl h=>?_⟩
 have hlen:l=1:=by have:=hr.1;simpa [aj] using this.symm
 refine ye hK hv hr hl he (by simp) (by omega) (fun w hw=>?_) ?_ rfl fun H' n0 rr f' g' hh f1 hq=>?_
 ·simp only [List.mem_cons,List.not_mem_nil,or_false] at hw
  rcases hw with rfl | rfl
  ·rw [bT hn];decide
  ·rw [bT hm];decide
 ·rw [bT hn];exact bI v (by decide)
 obtain ⟨q,e1,e2,_⟩:=hq
 cases e1
 show ac PP tJ #[cv b (2*n+1) a l c,.pointer (some ⟨q,0,none⟩)] _ _
 refine pp (hK.nil f1) (Rd.nilF hr f1) e2 (fun hk=>absurd (fc hm) hk) fun _ H2 f2=>?_
 rw [iC hn,hU]
 refine hg n m hn hm ⟨_,_,rfl,?_⟩
 have hq:=fun H' F'=>h H' F'
 have f12:=f1.trans f2
 rw [aT,af]
 refine ay (fun h0=>?_) fun h0=>?_
 ·simp only [if_pos h0] at hq
  exact ⟨_,_,rfl,hq _ _ (hK.nil f12) (Up.of_nil f12)⟩
 ·simp only [if_neg h0] at hq
  exact o5 ⟨_,_,rfl,_,_,rfl,hq _ _ (hK.nil f12) (Up.of_nil f12)⟩
theorem io (hv:KAllW s t v){x:ByteArray}{g:Nat}{f:Int->Int->Bool} (he:eq (oP 8) x=some (1,.clo 303 g)) (hg:∀ (n m:Int){H:ae}{Q:QT},Q (.bool (f n m)) H->ac PP g #[.int .i64 n,.int .i64 m] Q H){n m:Int} (hn:fg n) (hm:fg m) :
  PrimS s t 8 x (2*n+1) [2*m+1] (tw (f n m),0) s t:=by
 refine ⟨fun {H b F a l c Q} hK ht hr ho hl h=>?_⟩
 have hlen:l=1:=by have:=hr.1;simpa [aj] using this.symm
 refine ye hK hv hr hl he (by simp) (by omega) (fun w hw=>?_) ?_ rfl fun H' n0 rr f' g' hh f1 hq=>?_
 ·simp only [List.mem_cons,List.not_mem_nil,or_false] at hw
  rcases hw with rfl | rfl
  ·rw [bT hn];decide
  ·rw [bT hm];decide
 ·rw [bT hn];exact bI v (by decide)
 obtain ⟨q,e1,e2,_⟩:=hq
 cases e1
 show ac PP s0 #[cv b (2*n+1) a l c,.pointer (some ⟨q,0,none⟩)] _ _
 refine mR (hK.nil f1) (Rd.nilF hr f1) e2 hg (fun hk=>absurd (fc hm) hk) fun _ H2 f2=>?_
 rw [iC hn,hU]
 have f12:=f1.trans f2
 exact ⟨_,_,rfl,h _ _ (hK.nil f12) (Up.of_nil f12)⟩
theorem qH (hv:KAllW s t v){k:Int}{xs:List Int} (hs:kT s.h k xs) (hl:xs.length<=100000):PrimS s t 10 ⟨#[115,105,122,101]⟩ (4*k) [] (2*(xs.length:Int)+1,0) s t:=by
 obtain ⟨h1,h2⟩:=jC hv hs
 refine dm hv (n:=0) (f:=sS) rfl rfl (fun w hw=>?_) ?_ rfl fun hK _ h=>vy hK fun H' f=>?_
 ·simp only [List.mem_cons,List.not_mem_nil,or_false] at hw
  rw [hw,iZ hs h1 h2];decide
 ·rw [iZ hs h1 h2];exact bI v (by decide)
 ·rw [jJ hs h1 h2,lS (by simp only;omega)]
  exact h H' f
theorem oW (hv:KAllW s t v){k:Int}{xs:List Int} (hs:kT s.h k xs):PrimS s t 10 ⟨#[105,115,69,109,112,116,121]⟩ (4*k) [] (tw (decide ((xs.length:Int)=0)),0) s t:=by
 obtain ⟨h1,h2⟩:=jC hv hs
 refine dm hv (n:=0) (f:=tL) rfl rfl (fun w hw=>?_) ?_ rfl fun hK _ h=>tr hK fun H' f=>?_
 ·simp only [List.mem_cons,List.not_mem_nil,or_false] at hw
  rw [hw,iZ hs h1 h2];decide
 ·rw [iZ hs h1 h2];exact bI v (by decide)
 ·rw [jJ hs h1 h2]
  exact h H' f
theorem my (hv:KAllW s t v){k:Int}{xs:List Int} (hs:kT s.h k xs){n:Int} (hn:fg n):PrimS s t 10 ⟨#[97,116,58]⟩ (4*k) [2*n+1] (jk s.h (4*k) (2*n+1)) s t:=by
 obtain ⟨h1,h2⟩:=jC hv hs
 refine dm hv (n:=1) (f:=tQ) rfl rfl (fun w hw=>?_) ?_ rfl fun hK hr h=>rC hK hr fun H' f=>h H' f
 ·simp only [List.mem_cons,List.not_mem_nil,or_false] at hw
  rcases hw with rfl | rfl
  ·rw [iZ hs h1 h2];decide
  ·rw [bT hn];decide
 ·rw [iZ hs h1 h2];exact bI v (by decide)
theorem vZ {k:Int}{xs:List Int} (hs:kT s.h k xs) (h1:1<=k) (h2:k<=65536){i:Nat} (hi:i<xs.length) (hl:xs.length<=100000) (hb:0<=xs.getD i 0∧xs.getD i 0<=255):jk s.h (4*k) (2*((i:Int)+1)+1)=(2*xs.getD i 0+1,0):=by
 have hr:fg ((i:Int)+1):=⟨by omega,by omega⟩
 have e:eN (gm s.h (4*k)).1 (2*((i:Int)+1)+1)=((i:Int),0):=by
  unfold eN
  rw [if_neg (fun e=>e (fc hr)),hU,jJ hs h1 h2,if_neg (by simp only;omega)]
  have:(i:Int)+1-1=i:=by omega
  rw [this]
 unfold jk
 rw [e,if_neg (by simp),tp hs h1 h2 hi,lS (by omega)]
theorem nB {k:Int}{xs:List Int} (hs:kT s.h k xs) (h1:1<=k) (h2:k<=65536){n:Int} (hr:fg n) (hn:n<1∨(xs.length:Int)<n):jk s.h (4*k) (2*n+1)=(0,171):=by
 have e:eN (gm s.h (4*k)).1 (2*n+1)=(0,171):=by
  unfold eN
  rw [if_neg (fun e=>e (fc hr)),hU,jJ hs h1 h2,if_pos hn]
 unfold jk
 rw [e,if_pos (by decide)]
end
theorem ig (H:ae) (n:Int) (e:TypeId):Rd 1 (H.push (.cells #[.int .i64 n] e)) (some ⟨H.size,0,none⟩) 1 (aj [n]) :=
 (show bF 1 (H.push (.cells #[.int .i64 n] e)) (some ⟨H.size,0,none⟩) 1 1 (aj [n]) [H.size] from ⟨by simp [aj],Nat.le_refl _,.inr ⟨_,_,rfl,rfl,ba.new _ _ _,by simp,by simp [aj]⟩⟩).rd
theorem jO (H:ae):Rd 1 H none 0 (aj []):=(bF.nil 1 H).rd
theorem iO {s:SP}{t:TB}{v:KV} (hv:KAllW s t v) (w:Int) (hl:s.stack.length+1<60000):KAllW (s.keepW [w]).2 t v∧(s.keepW [w]).2.h=s.h∧(s.keepW [w]).2.stack.length<=s.stack.length+1:=by
 unfold SP.keepW
 split
 ·exact ⟨hv,rfl,Nat.le_succ _⟩
 rename_i hw
 split
 ·exact ⟨hv,rfl,Nat.le_succ _⟩
 ·have hw':cN w:=Classical.byContradiction fun e=>hw ⟨w,by simp,e⟩
  refine ⟨⟨⟨{ hv.ks.wf with many:=by simp;omega,words:=fun x hx=>?_ },hv.ks.gc,hv.ks.op,hv.ks.king,hv.ks.view,hv.ks.sep,hv.ks.shape⟩,hv.names,by simp;omega⟩,rfl,by simp⟩
  rcases List.mem_append.1 hx with hx | hx
  ·exact hv.ks.wf.words x hx
  ·rw [List.mem_singleton.1 hx];exact hw'
structure SD (H:ae) (db:Nat) (D:aA) (s:SP) (t:TB) (v:KV) (ws:List Int) (N:Nat):Prop where
 dk:DK H db D s t ws
 all:KAllW s t v
 st:s.stack.length<=N
 wl:ws.length<=N
theorem SD.nil {H H':ae}{db:Nat}{D:aA}{s:SP}{t:TB}{v:KV}{ws:List Int}{N:Nat} (h:SD H db D s t v ws N) (f:Fr [] H H'):SD H' db D s t v ws N:=⟨h.dk.nil f,h.all,h.st,h.wl⟩
section
variable {H:ae}{db:Nat}{D:aA}{s:SP}{t:TB}{v:KV}{ws:List Int}{N:Nat}{Q:QT}{r:Int}
theorem fw {n:Int} (hn:fg n) (h:Q (.int .i64 (2*n+1)) H):ac PP Cy #[.int .i64 n] Q H:=by
 apply zX
 unfold EH iV wW
 obtain ⟨h1,h2⟩:=hn
 rw [ag (n:=2*n) (by omega) (by omega),ag (by omega) (by omega)]
 exact h
theorem cU {x:Bool} (h:Q (.int .i64 (tw x)) H):ac PP Br #[.bool x] Q H:=by
 apply yX
 unfold EF iV
 cases x <;> exact h
theorem qo (hD:DK H db D s t ws){H':ae} (f:Fr [] H H'):∀ p,(some ⟨H'.size,0,none⟩:Option Addr)=some p->p.block∉D:=fun p hp hm=>by
 cases hp
 have:=hD.lt _ hm
 have:=f.1
 simp only at *
 omega
theorem mZ (hD:SD H db D s t v ws N) (hN:N+1<60000){k:Int}{x:ByteArray}{ar:List Int}{w want:Int} (hp:PrimS s t k x r ar (w,0) s t){a:Option Addr}{l c:Nat} (hr:Rd 1 H a l (aj ar)) (ho:∀ p,a=some p->p.block∉D) (hal:l<=1000)
  (h:∀ H' D' s' ws',SD H' db D' s' t v ws' (N+1)->s'.h=s.h->Up D H D' H'->Q (.bool (decide (w=want))) H') :
  ac PP tU #[.pointer (some ⟨db,0,none⟩),.int .i64 k,.string x,.int .i64 r,.slice a l c,.int .i64 want] Q H:=by
 have h1:=hD.st
 have h2:=hD.wl
 obtain ⟨k1,k2,k3⟩:=iO hD.all w (by omega)
 exact Co hD.dk (by omega) hp hr ho hal fun H' D' hD' u=>h H' D' _ _ ⟨hD',k1,by omega,by simp;omega⟩ k2 u
theorem xJ (hD:SD H db D s t v ws N) (hN:N+1<60000){k:Int}{x:ByteArray}{ar:List Int}{w:Int}{s1:SP}{t1:TB} (hp:PrimS s t k x r ar (w,0) s1 t1) (h1:KAllW s1 t1 v) (hst:s1.stack.length<=s.stack.length){a:Option Addr}{l c:Nat} (hr:Rd 1 H a l (aj ar)) (ho:∀ p,a=some p->p.block∉D) (hal:l<=1000)
  (h:∀ H' D' s' ws',SD H' db D' s' t1 v ws' (N+1)->s'.h=s1.h->Up D H D' H'->Q (.tuple #[.int .i64 w,.int .i64 0]) H') :
  ac PP qn #[.pointer (some ⟨db,0,none⟩),.int .i64 k,.string x,.int .i64 r,.slice a l c] Q H:=by
 have g1:=hD.st
 have g2:=hD.wl
 obtain ⟨k1,k2,k3⟩:=iO h1 w (by omega)
 refine sv hD.dk (by omega) hp hr ho hal fun H' D' hD' u=>?_
 unfold nv at hD'
 simp only [if_true] at hD'
 exact h H' D' _ _ ⟨hD',k1,by omega,by simp;omega⟩ k2 u
theorem sj (hD:SD H db D s t v ws N) (hN:N+1<60000){k:Int}{x:ByteArray}{ar:List Int}{w e:Int} (he:e≠0) (hp:PrimS s t k x r ar (w,e) s t){a:Option Addr}{l c:Nat} (hr:Rd 1 H a l (aj ar)) (ho:∀ p,a=some p->p.block∉D) (hal:l<=1000)
  (h:∀ H' D',SD H' db D' s t v ws N->Up D H D' H'->Q (.tuple #[.int .i64 w,.int .i64 e]) H') :
  ac PP qn #[.pointer (some ⟨db,0,none⟩),.int .i64 k,.string x,.int .i64 r,.slice a l c] Q H:=by
 have g2:=hD.wl
 refine sv hD.dk (by omega) hp hr ho hal fun H' D' hD' u=>?_
 unfold nv at hD'
 simp only [if_neg he] at hD'
 exact h H' D' ⟨hD',hD.all,hD.st,hD.wl⟩ u
theorem uw (hD:SD H db D s t v ws N){k:Int}{y:ByteArray} (hs:kT s.h k (bm y)) (hy:y.size<=10000) (hN:N+y.size+10<60000)
  (h:∀ H' D' s' ws',SD H' db D' s' t v ws' (N+y.size+2)->s'.h=s.h->Up D H D' H'->Q (.bool true) H') :
  ac PP B9 #[.pointer (some ⟨db,0,none⟩),.int .i64 (4*k),.string y] Q H:=by
 have hbl:=gO y
 obtain ⟨k1,k2⟩:=jC hD.all hs
 have hsz:=qH hD.all hs (by omega)
 rw [hbl] at hsz
 apply zB
 unfold EA A0 iV wW pV sV lV cS
 refine fw ⟨by omega,by omega⟩ ⟨_,rfl,mZ hD (by omega) hsz (jO H) (fun p hp=>by cases hp) (by decide) fun H1 D1 s1 ws1 hD1 e1 u1=>⟨_,rfl,?_⟩⟩
 rw [decide_eq_true rfl,Bool.not_true,cond_false,aS]
 have hs1:kT s1.h k (bm y):=by rw [e1];exact hs
 have hem:=oW hD1.all hs1
 rw [hbl] at hem
 refine cU ⟨_,rfl,mZ hD1 (by omega) hem (jO H1) (fun p hp=>by cases hp) (by decide) fun H2 D2 s2 ws2 hD2 e2 u2=>⟨_,rfl,?_⟩⟩
 rw [decide_eq_true rfl,Bool.not_true,cond_false]
 refine ⟨fun w H'=>∃(i:Nat) (D':aA) (s':SP) (ws':List Int),w=[.int .i64 i]∧i<=y.size∧SD H' db D' s' t v ws' (N+1+1+i)∧s'.h=s.h∧Up D H D' H',fun w _=>match w with
  | [.int _ i]=>((y.size:Int)-i).toNat
  | _=>0,⟨0,D2,s2,ws2,rfl,Nat.zero_le _,hD2,e2.trans e1,u1.trans u2⟩,?_⟩
 rintro w H3 ⟨i,D3,s3,ws3,rfl,hi,hD3,e3,u3⟩ _
 have hs3:kT s3.h k (bm y):=by rw [e3];exact hs
 refine ⟨_,rfl,iK (fun hlt=>?_) fun hge=>?_⟩
 ·have hil:i<y.size:=by omega
  have w1:IntKind.wrap .i64 ((i:Int)+1)=((i+1:Nat):Int):=by rw [ag (by omega) (by omega)];omega
  have hg:y[i]?=some y[i]:=by simp [hil]
  have hu:=(y[i]).toNat_lt
  have eu:IntKind.wrap .i64 ((y[i]).toNat:Int)=((y[i]).toNat:Int):=ag (by omega) (by omega)
  have hbi:(bm y).getD i 0=((y[i]).toNat:Int):=by
   unfold bm
   rw [List.getD_eq_getElem?_getD,List.getElem?_map,Array.getElem?_toList]
   have:y.data[i]?=some y[i]:=by
    have h1:i<y.data.size:=hil
    rw [Array.getElem?_eq_getElem h1];rfl
   rw [this];rfl
  have hat:=my hD3.all hs3 (n:=((i+1:Nat):Int)) ⟨by omega,by omega⟩
  have eb:=vZ hs3 k1 k2 (i:=i) (by omega) (by omega) (by rw [hbi];omega)
  have ecast:(2*((i:Int)+1)+1)=2*((i+1:Nat):Int)+1:=by omega
  rw [ecast] at eb
  rw [eb,hbi] at hat
  refine ⟨y[i],⟨by omega,by rw [Int.toNat_natCast];exact hg⟩,?_⟩
  rw [w1,eu]
  refine fw ⟨by omega,by omega⟩ ⟨_,rfl,trivial,⟨trivial,fw ⟨by omega,by omega⟩ ⟨_,rfl,trivial,?_⟩⟩,fw ⟨by omega,by omega⟩ ⟨_,rfl,trivial,trivial,?_⟩⟩
  ·have fp:=Fr.push [] H3 (.cells #[.int .i64 (2*((i+1:Nat):Int)+1)] 24)
   refine mZ (hD3.nil fp) (by omega) hat (ig _ _ _) (qo hD3.dk (Fr.refl _ _)) (by decide) fun H4 D4 s4 ws4 hD4 e4 u4=>⟨_,rfl,trivial,?_⟩
   rw [decide_eq_true rfl,Bool.not_true,cond_false]
   have u4':Up D3 H3 D4 H4:=⟨⟨Nat.le_trans fp.1 u4.1.1,fun z hz hn=>by rw [u4.1.2 z (Nat.lt_of_lt_of_le hz fp.1) hn,fp.2 z hz (by simp)]⟩,fun z hz=>(u4.2 z hz).imp id fun h=>Nat.le_trans fp.1 h⟩
   exact ⟨⟨i+1,D4,s4,ws4,rfl,by omega,hD4,e4.trans e3,u3.trans u4'⟩,by simp;omega⟩
  ·have fp:=Fr.push [] H3 (.cells #[.int .i64 (2*((i+1:Nat):Int)+1)] 24)
   refine mZ (hD3.nil fp) (by omega) hat (ig _ _ _) (qo hD3.dk (Fr.refl _ _)) (by decide) fun H4 D4 s4 ws4 hD4 e4 u4=>⟨_,rfl,trivial,?_⟩
   rw [decide_eq_true rfl,Bool.not_true,cond_false]
   have u4':Up D3 H3 D4 H4:=⟨⟨Nat.le_trans fp.1 u4.1.1,fun z hz hn=>by rw [u4.1.2 z (Nat.lt_of_lt_of_le hz fp.1) hn,fp.2 z hz (by simp)]⟩,fun z hz=>(u4.2 z hz).imp id fun h=>Nat.le_trans fp.1 h⟩
   exact ⟨⟨i+1,D4,s4,ws4,rfl,by omega,hD4,e4.trans e3,u3.trans u4'⟩,by simp;omega⟩
 ·have w1:IntKind.wrap .i64 ((y.size:Int)+1)=(y.size:Int)+1:=ag (by omega) (by omega)
  have eo1:=nB hs3 k1 k2 (n:=(y.size:Int)+1) ⟨by omega,by omega⟩ (.inr (by omega))
  have ha1:=my hD3.all hs3 (n:=(y.size:Int)+1) ⟨by omega,by omega⟩
  rw [eo1] at ha1
  have eo2:=nB hs3 k1 k2 (n:=0) ⟨by omega,by omega⟩ (.inl (by omega))
  have ha2:=my hD3.all hs3 (n:=0) ⟨by omega,by omega⟩
  rw [eo2] at ha2
  rw [w1]
  have step:∀ {Ha Hb:ae}{Da Db:aA}{o:Obj},Up Da (Ha.push o) Db Hb->Up Da Ha Db Hb:=fun {Ha Hb Da Db o} u=>by
   have fp:=Fr.push [] Ha o
   exact ⟨⟨Nat.le_trans fp.1 u.1.1,fun z hz hn=>by rw [u.1.2 z (Nat.lt_of_lt_of_le hz fp.1) hn,fp.2 z hz (by simp)]⟩,fun z hz=>(u.2 z hz).imp id fun h=>Nat.le_trans fp.1 h⟩
  refine fw ⟨by omega,by omega⟩ ⟨_,rfl,sj (hD3.nil (Fr.push _ _ _)) (by omega) (by decide) ha1 (ig _ _ _) (qo hD3.dk (Fr.refl _ _)) (by decide) fun H4 D4 hD4 u4=>⟨_,_,rfl,?_⟩⟩
  refine fw ⟨by omega,by omega⟩ ⟨_,rfl,sj (hD4.nil (Fr.push _ _ _)) (by omega) (by decide) ha2 (ig _ _ _) (qo hD4.dk (Fr.refl _ _)) (by decide) fun H5 D5 hD5 u5=>⟨_,_,rfl,?_⟩⟩
  simp only [beq_self_eq_true,cond_true]
  have hiy:i=y.size:=by omega
  subst hiy
  exact h H5 D5 s3 ws3 ⟨hD5.dk,hD5.all,by have:=hD5.st;omega,by have:=hD5.wl;omega⟩ e3 ((u3.trans (step u4)).trans (step u5))
end
def HB (H:ae) (b sb hb:Nat):Prop:=aa H ⟨b,0,none⟩=some (.pointer (some ⟨sb,0,none⟩))∧aa H ⟨sb,0,none⟩=some (.pointer (some ⟨hb,0,none⟩))
theorem eD {H:ae}{b o:Nat}{v:Value} (h:aa H ⟨b,o,none⟩=some v):b<H.size:=by
 unfold aa at h
 rcases Nat.lt_or_ge b H.size with h1 | h1
 ·exact h1
 ·simp only [Array.getElem?_eq_none h1] at h;cases h
theorem HB.nil {H H':ae}{b sb hb:Nat} (h:HB H b sb hb) (hf:Fr [] H H'):HB H' b sb hb:=by
 obtain ⟨h1,h2⟩:=h
 exact ⟨by rw [ce hf (by simp) (eD h1)];exact h1,by rw [ce hf (by simp) (eD h2)];exact h2⟩
section
variable {H:ae}{b sb hb:Nat}{F:aA}{s:SP}{t:TB}{Q:QT}
theorem PK.hp (hK:PK H b F s t) (hB:HB H b sb hb):∃ F1,bJ H hb F1 s.h∧(∀ x∈F1,x∈F)∧∀ H' r',bJ H' hb F1 r'->Fr F1 H H'->PK H' b F { s with h:=r' } t∧HB H' b sb hb:=by
 obtain ⟨sb',F1,hc,hS,hsub,hbF,_,hup⟩:=hK.sp
 obtain ⟨hc1,hc2⟩:=hB
 rw [hc] at hc1
 have e:sb'=sb:=by simpa using hc1
 subst e
 obtain ⟨hb',F2,hR,c0,_,_,hsub2,hnb,hup2⟩:=hS.upd
 rw [c0] at hc2
 have e:hb'=hb:=by simpa using hc2
 subst e
 have hbl:=hK.lt b hK.bmem
 have hsl:=hS.lt _ hS.bmem
 refine ⟨F2,hR,fun x hx=>hsub x (hsub2 x hx),fun H' r' hR' hf=>⟨hup H' _ (hup2 H' r' hR' hf) (hf.mono hsub2),?_,?_⟩⟩
 ·rw [ce hf (fun hm=>hbF (hsub2 b hm)) hbl];exact hc
 ·rw [ce hf hnb hsl];exact c0
theorem PK.tbB (hK:PK H b F s t) (hB:HB H b sb hb):∃ tb F2,aa H ⟨b,1,none⟩=some (.pointer (some ⟨tb,0,none⟩))∧kN H tb F2 t∧∀ H' F2' t',kN H' tb F2' t'->Up F2 H F2' H'->(∃ F',PK H' b F' s t'∧Up F H F' H')∧HB H' b sb hb:=by
 obtain ⟨sb0,tb,F1,F2,rfl,h1,h2,h3,k1,k2,hBl,hS,hT⟩:=hK
 have hK:PK H b (b :: (F1++F2)) s t:=⟨sb0,tb,F1,F2,rfl,h1,h2,h3,k1,k2,hBl,hS,hT⟩
 obtain ⟨tb',F2',hc',hT',hsub',hbF',hup',_⟩:=hK.tb
 obtain ⟨hc1,hc2⟩:=hB
 have e0:aa H ⟨b,0,none⟩=some (.pointer (some ⟨sb0,0,none⟩)):=hBl.cell 0
 rw [e0] at hc1
 have e:sb0=sb:=by simpa using hc1
 subst e
 have hbl:=hK.lt b hK.bmem
 have hsl:=hS.lt _ hS.bmem
 refine ⟨tb,F2,hBl.cell 1,hT,fun H' F2' t' hT2 hu=>⟨?_,?_,?_⟩⟩
 ·have hlt:=hK.lt
  have hgl:=hK.kinds.lt
  have hgS:=hS.gk
  refine ⟨b :: (F1++F2'),⟨_,tb,F1,F2',rfl,h1,Up.out hu h2 hbl,fun x hx hx2=>?_,k1,Up.out hu k2 hgl,hBl.fr hu.1 h2,hS.fr hu.1 h3 k2,hT2⟩,hu.1.mono fun x hx=>by simp [hx],fun x hx=>?_⟩
  ·rcases hu.2 x hx2 with h4 | h4
   ·exact h3 x hx h4
   ·have:=hlt x (by simp [hx]);omega
  ·rcases List.mem_cons.1 hx with rfl | hx
   ·exact .inl (by simp)
   ·rcases List.mem_append.1 hx with hx | hx
    ·exact .inl (by simp [hx])
    ·exact (hu.2 x hx).imp (fun h4=>by simp [h4]) id
 ·rw [ce hu.1 h2 hbl];exact e0
 ·rw [ce hu.1 (h3 _ hS.bmem) hsl];exact hc2
theorem jE {r:RH} (h:∀ k x,am r.objs k=some x->x.fmt=0) (k i w:Int):∀ j x,am (r.put k i w).2.objs j=some x->x.fmt=0:=fun j x hx=>by
 obtain ⟨y,h1,h2⟩:=qa k i w j hx
 rw [h2];exact h j y h1
theorem uP (o:Int) (l:List Int):∀ (i:Int){r:RH},(∀ k x,am r.objs k=some x->x.fmt=0)->∀ j x,am (r.lay o i l).objs j=some x->x.fmt=0:=by
 induction l with
 | nil=>intro i r h;exact h
 | cons w l ih=>intro i r h;exact ih (i+1) (jE h o i w)
theorem lx {r:RH} (h:∀ k x,am r.objs k=some x->x.fmt=0) (n:Nat):∀ j x,am (gA r n).objs j=some x->x.fmt=0:=by
 induction n with
 | zero=>exact h
 | succ n ih=>exact jE (uP _ _ _ ih) _ _ _
theorem yS (hK:PK H b F s ⟨4096,[]⟩) (hB:HB H b sb hb) (hfmt:∀ k x,am s.h.objs k=some x->x.fmt=0)
  (h:∀ H' F',PK H' b F' { s with h:=dH s.h } co->HB H' b sb hb->Up F H F' H'->Q (.tuple #[]) H'):ac PP Dk #[.pointer (some ⟨b,0,none⟩)] Q H:=by
 have h14:bn.length=14:=rfl
 apply AH
 unfold Ep A0 iV wW pV sV lV cS
 obtain ⟨sb0,F1,hc,hS,_⟩:=hK.sp
 have e0:sb0=sb:=by
  have:=hB.1
  rw [hc] at this;simpa using this
 subst e0
 refine ⟨_,rfl,_,hc,?_⟩
 have hps:∀ {Q':Value->ae->Prop},Q' (.pointer (some ⟨hb,0,none⟩)) H->ac PP qq #[.pointer (some ⟨sb0,0,none⟩)] Q' H:=by
  intro Q' hq
  obtain ⟨hb',F1',hR,c0,_⟩:=hS.upd
  obtain ⟨hc1,hc2⟩:=hB
  rw [c0] at hc2
  have e:hb'=hb:=by simpa using hc2
  subst e
  apply rS
  unfold DR pV
  refine dO hS ⟨_,rfl,?_⟩
  simp only [cond_false]
  exact ⟨_,rfl,_,c0,hq⟩
 refine hps ⟨_,rfl,?_⟩
 apply rU
 unfold Eh A0 sV lV
 refine ⟨_,_,_,rfl,?_⟩
 have fp:=(Fr.push [] H (.cells (aX bn).toArray 9))
 have hN:Rd 1 (H.push (.cells (aX bn).toArray 9)) (some ⟨H.size,0,none⟩) 14 (aX bn):=by
  refine ⟨rfl,(fun h=>by cases h),fun p hp k hk=>?_⟩
  cases hp
  rw [ah,Nat.zero_add,(ba.new H _ _).cell]
  simp
 have hNo:rR (H.push (.cells (aX bn).toArray 9)) (some ⟨H.size,0,none⟩) F:=fun p hp=>by
  cases hp
  exact ⟨by simp,fun hm=>absurd (hK.lt _ hm) (Nat.lt_irrefl _)⟩
 have hK1:=hK.nil fp
 have hB1:HB (H.push (.cells (aX bn).toArray 9)) b sb0 hb:=HB.nil hB fp
 show ∃(I8:List Value->ae->Prop) (μ8:List Value->ae->Nat),I8 [.int .i64 0] (H.push (.cells (aX bn).toArray 9))∧_
 generalize (H.push (.cells (aX bn).toArray 9))=H0 at fp hN hNo hK1 hB1 ⊢
 refine ⟨fun w H'=>∃(i:Nat) (F':aA),w=[.int .i64 i]∧i<=14∧PK H' b F' { s with h:=gA s.h i } ⟨4096,bn.take i⟩∧HB H' b sb0 hb∧Up F H0 F' H',fun w _=>match w with
  | [.int _ i]=>(14-i).toNat
  | _=>0,⟨0,F,rfl,by decide,hK1,hB1,Up.refl _ _⟩,?_⟩
 rintro w H3 ⟨i,F3,rfl,hi,hK3,hB3,hu3⟩ _
 refine ⟨_,rfl,?_⟩
 rw [af]
 refine ay (fun hlt=>?_) fun hlt=>?_
 ·have hlt':i<bn.length:=by omega
  obtain ⟨p,hlt2,hp,hcell⟩:=(hNo.rd hu3 hN).str (i:=(i:Int)) (by omega) (by omega)
  cases hp
  simp only [Int.toNat_natCast] at hcell hlt2
  have e1:IntKind.wrap .i64 ((i:Int)+1)=((i+1:Nat):Int):=by rw [ag (by omega) (by omega)];omega
  have e1':IntKind.wrap .i64 ((i:Int)+1)=(i:Int)+1:=ag (by omega) (by omega)
  have e4:IntKind.wrap .i64 (4+(i:Int))=4+(i:Int):=ag (by omega) (by omega)
  obtain ⟨tb,F4,hc4,hT4,hup4⟩:=PK.tbB hK3 hB3
  refine ⟨⟨by omega,hlt⟩,_,rfl,_,by rw [Int.toNat_natCast,Nat.mul_one];exact hcell,_,rfl,_,hc4,pM hT4 fun H4 F4' hT4' hu4=>⟨_,_,rfl,?_⟩⟩
  rw [vM hlt'] at hT4' ⊢
  obtain ⟨⟨F5,hK5,hu5⟩,hB5⟩:=hup4 H4 F4' _ hT4' hu4
  refine xr ⟨by simp only;omega,by simp only;omega⟩ ⟨_,_,rfl,bO (by decide) ⟨_,rfl,?_⟩⟩
  refine ⟨fun w H'=>w=[.int .i64 (if i=0 then 4 else 16)]∧H'=H4,?_,?_⟩
  ·rw [aS,af]
   refine ay (fun h0=>bO (by decide) ⟨_,rfl,?_,rfl⟩) fun h0=>⟨?_,rfl⟩
   ·rw [if_pos (by omega)];rfl
   ·rw [if_neg (by omega)];rfl
  rintro w H4' ⟨rfl,rfl⟩ _
  refine ⟨_,rfl,bO (by decide) ⟨_,rfl,bO (by decide) ⟨_,rfl,bO (by decide) ⟨_,rfl,ga (by decide) ⟨_,rfl,?_⟩⟩⟩⟩⟩
  rw [e1',e4]
  refine ga ⟨by omega,by omega⟩ ⟨_,rfl,?_⟩
  have fq:=(Fr.push [] H4' (.cells (aj (cL i)).toArray 24))
  have hW:Rd 1 (H4'.push (.cells (aj (cL i)).toArray 24)) (some ⟨H4'.size,0,none⟩) 7 (aj (cL i)):=kb (cs:=cL i)
  have hWo:rR (H4'.push (.cells (aj (cL i)).toArray 24)) (some ⟨H4'.size,0,none⟩) F5:=fun p hp=>by
   cases hp
   exact ⟨by simp,fun hm=>absurd (hK5.lt _ hm) (Nat.lt_irrefl _)⟩
  have hK6:=hK5.nil fq
  have hB6:HB (H4'.push (.cells (aj (cL i)).toArray 24)) b sb0 hb:=HB.nil hB5 fq
  show ∃(I38:List Value->ae->Prop) (μ38:List Value->ae->Nat),I38 [.int .i64 0] (H4'.push (.cells (aj (cL i)).toArray 24))∧_
  generalize (H4'.push (.cells (aj (cL i)).toArray 24))=H6 at fq hW hWo hK6 hB6 ⊢
  refine ⟨fun w H'=>∃(k:Nat) (r:RH),w=[.int .i64 k]∧k<=7∧PK H' b F5 { s with h:=r } ⟨4096,bn.take (i+1)⟩∧HB H' b sb0 hb∧Fr F5 H6 H'∧r.lay (4+i) k ((cL i).drop k)=(gA s.h i).lay (4+i) 0 (cL i)∧∀ j x,am r.objs j=some x->x.fmt=0,fun w _=>match w with
   | [.int _ k]=>(7-k).toNat
   | _=>0,⟨0,gA s.h i,rfl,by decide,hK6,hB6,Fr.refl _ _,rfl,lx hfmt i⟩,?_⟩
  rintro w H7 ⟨k,r,rfl,hk7,hK7,hB7,hf7,hlay,hr⟩ _
  refine ⟨_,rfl,?_⟩
  rw [af]
  refine ay (fun hkl=>?_) fun hkl=>?_
  ·have hkl':k<(cL i).length:=by show k<7;omega
   obtain ⟨p,hp,hcell,hlt3⟩:=(hW.fr' hf7 fun p hp=>(hWo p hp).2).int (i:=(k:Int)) (by omega) (by omega)
   cases hp
   rw [Int.toNat_natCast] at hcell hlt3
   have hx:(cL i).getD k 0=(cL i)[k]:=by simp [hkl']
   rw [hx] at hcell
   have ed:(cL i).drop k=(cL i)[k] :: (cL i).drop (k+1):=List.drop_eq_getElem_cons hkl'
   have ek:IntKind.wrap .i64 ((k:Int)+1)=((k+1:Nat):Int):=by rw [ag (by omega) (by omega)];omega
   obtain ⟨F8,hR8,hsub8,hup8⟩:=PK.hp hK7 hB7
   refine ⟨⟨by omega,hkl⟩,_,rfl,_,by rw [Int.toNat_natCast,Nat.mul_one];exact hcell,km hR8 (hr _) fun H9 hR9 hf9=>⟨_,rfl,?_⟩⟩
   obtain ⟨hK9,hB9⟩:=hup8 H9 _ hR9 hf9
   rw [ek]
   refine ⟨⟨k+1,(r.put (4+i) k (cL i)[k]).2,rfl,by omega,hK9,hB9,hf7.trans (hf9.mono hsub8),?_,jE hr _ _ _⟩,by simp;omega⟩
   rw [←hlay,ed]
   rfl
  ·have hk:k=7:=by omega
   subst hk
   have hz:(cL i).drop 7=[]:=rfl
   rw [hz] at hlay
   simp only [RH.lay] at hlay
   subst hlay
   refine bO ⟨by omega,by omega⟩ ⟨_,rfl,?_⟩
   obtain ⟨F8,hR8,hsub8,hup8⟩:=PK.hp hK7 hB7
   refine km hR8 (hr _) fun H9 hR9 hf9=>⟨_,rfl,?_⟩
   obtain ⟨hK9,hB9⟩:=hup8 H9 _ hR9 hf9
   rw [show (i:Int)+1=((i+1:Nat):Int) by omega]
   refine ⟨⟨i+1,F5,rfl,by omega,hK9,hB9,?_⟩,by simp;omega⟩
   exact (hu3.trans hu5).trans ((Up.of_nil fq).trans ⟨hf7.trans (hf9.mono hsub8),fun _ h=>.inl h⟩)
 ·have hi14:i=14:=by omega
  subst hi14
  have fq:=(Fr.push [] H3 (.cells (aj [20,18,18,18,1,2,3]).toArray 3))
  have hW:Rd 1 (H3.push (.cells (aj [20,18,18,18,1,2,3]).toArray 3)) (some ⟨H3.size,0,none⟩) 7 (aj [20,18,18,18,1,2,3]):=kb (cs:=[20,18,18,18,1,2,3])
  have hWo:rR (H3.push (.cells (aj [20,18,18,18,1,2,3]).toArray 3)) (some ⟨H3.size,0,none⟩) F3:=fun p hp=>by
   cases hp
   exact ⟨by simp,fun hm=>absurd (hK3.lt _ hm) (Nat.lt_irrefl _)⟩
  have hK6:=hK3.nil fq
  have hB6:HB (H3.push (.cells (aj [20,18,18,18,1,2,3]).toArray 3)) b sb0 hb:=HB.nil hB3 fq
  show ∃(I38:List Value->ae->Prop) (μ38:List Value->ae->Nat),I38 [.int .i64 0] (H3.push (.cells (aj [20,18,18,18,1,2,3]).toArray 3))∧_
  generalize (H3.push (.cells (aj [20,18,18,18,1,2,3]).toArray 3))=H6 at fq hW hWo hK6 hB6 ⊢
  refine ⟨fun w H'=>∃(k:Nat) (r:RH),w=[.int .i64 k]∧k<=7∧PK H' b F3 { s with h:=r } co∧HB H' b sb0 hb∧Fr F3 H6 H'∧r.lay 19 k (mT.drop k)=dH s.h∧∀ j x,am r.objs j=some x->x.fmt=0,fun w _=>match w with
   | [.int _ k]=>(7-k).toNat
   | _=>0,⟨0,gA s.h 14,rfl,by decide,by rw [show co=⟨4096,bn.take 14⟩ from rfl];exact hK6,hB6,Fr.refl _ _,by rw [dH];rfl,lx hfmt 14⟩,?_⟩
  rintro w H7 ⟨k,r,rfl,hk7,hK7,hB7,hf7,hlay,hr⟩ _
  refine ⟨_,rfl,?_⟩
  rw [af]
  refine ay (fun hkl=>?_) fun hkl=>?_
  ·have hkl':k<7:=by omega
   obtain ⟨p,hp,hcell,hlt3⟩:=(hW.fr' hf7 fun p hp=>(hWo p hp).2).int (i:=(k:Int)) (by omega) (by omega)
   cases hp
   rw [Int.toNat_natCast] at hcell hlt3
   have ek:IntKind.wrap .i64 ((k:Int)+1)=((k+1:Nat):Int):=by rw [ag (by omega) (by omega)];omega
   have hx:1<=([20,18,18,18,1,2,3]:List Int).getD k 0∧([20,18,18,18,1,2,3]:List Int).getD k 0<=65536∧mT.drop k=4*([20,18,18,18,1,2,3]:List Int).getD k 0 :: mT.drop (k+1):=by
    rcases k with _ | _ | _ | _ | _ | _ | _ | k
    all_goals first | exact ⟨by decide,by decide,by decide⟩ | omega
   obtain ⟨F8,hR8,hsub8,hup8⟩:=PK.hp hK7 hB7
   refine ⟨⟨by omega,hkl⟩,_,rfl,_,by rw [Int.toNat_natCast,Nat.mul_one];exact hcell,bO ⟨hx.1,hx.2.1⟩ ⟨_,rfl,km hR8 (hr _) fun H9 hR9 hf9=>⟨_,rfl,?_⟩⟩⟩
   obtain ⟨hK9,hB9⟩:=hup8 H9 _ hR9 hf9
   rw [ek]
   refine ⟨⟨k+1,_,rfl,by omega,hK9,hB9,hf7.trans (hf9.mono hsub8),?_,jE hr _ _ _⟩,by simp;omega⟩
   rw [←hlay,hx.2.2]
   rfl
  ·have hk:k=7:=by omega
   subst hk
   have hz:mT.drop 7=[]:=rfl
   rw [hz] at hlay
   have hlay':r=dH s.h:=hlay
   rw [hlay'] at hK7
   have hu7:Up F3 H3 F3 H7:=(Up.of_nil fq).trans ⟨hf7,fun _ h=>.inl h⟩
   have hu9:Up F H F3 H7:=((Up.of_nil fp).trans hu3).trans hu7
   exact h H7 F3 hK7 hB7 hu9
end
def bV:List (Int × Int)->List Value
 | []=>[]
 | (c,n) :: l=>.int .i64 c :: .int .i64 n :: bV l
theorem hZ (l m:List (Int × Int)):bV (l++m)=bV l++bV m:=by
 induction l with
 | nil=>rfl
 | cons x l ih=>obtain ⟨c,n⟩:=x;simp [bV,ih]
theorem qL (l:List (Int × Int)):(bV l).length=2*l.length:=by
 induction l with
 | nil=>rfl
 | cons x l ih=>obtain ⟨c,n⟩:=x;simp only [bV,List.length_cons,ih];omega
theorem ra (l:List (Int × Int)):∀ v∈bV l,dA v=true:=by
 induction l with
 | nil=>intro v hv;cases hv
 | cons x l ih =>
  obtain ⟨c,n⟩:=x
  intro v hv
  simp only [bV,List.mem_cons] at hv
  rcases hv with rfl | rfl | hv
  ·rfl
  ·rfl
  ·exact ih v hv
theorem qZ {l:List (Int × Int)}{i:Nat} (h:i<l.length):(bV l)[i*2]?=some (.int .i64 l[i].1)∧(bV l)[i*2+1]?=some (.int .i64 l[i].2):=by
 induction l generalizing i with
 | nil=>simp at h
 | cons x l ih =>
  obtain ⟨c,n⟩:=x
  cases i with
  | zero=>simp [bV]
  | succ i =>
   have:=ih (i:=i) (by simpa using h)
   have e:(i+1)*2=i*2+2:=by omega
   rw [e]
   simpa [bV] using this
theorem kX (r:RH) (x:Int × Int) (l:List (Int × Int)):r.allocAll (x :: l)=if (r.alloc (4*x.1) x.2 0).1.2≠0 then ((r.alloc (4*x.1) x.2 0).1.2,(r.alloc (4*x.1) x.2 0).2) else RH.allocAll (r.alloc (4*x.1) x.2 0).2 l:=by
 obtain ⟨c,n⟩:=x;rfl
theorem rc (words oops:Int):dH (((br words oops).allocAll aq).2)=bu words oops:=rfl
theorem rB {words oops:Int} (hz:((br words oops).allocAll aq).1=0):((br words oops).allocAll aq).2.objs=fE:=by
 rw [gu aq (r:=br words oops) rfl hz];rfl
theorem rn {words oops:Int} (hw:WFH (bu words oops)) (hz:((br words oops).allocAll aq).1=0):((bu words oops).clsAt 19).2=0:=by
 obtain ⟨x,hx,_⟩:=pF hw hz (p:=(19,[80,72,72,72,4,8,12,4])) (by decide)
 unfold RH.clsAt
 simp only at hx
 rw [hx]
attribute [local irreducible] bu dH fE
section
variable {H:ae}{Q:QT}
theorem oM:∀ i (hi:i<aq.length),1<=(aq[i]).1∧(aq[i]).1<=65536:=by decide
theorem uK {words oops:Int} (hk:bR H) (hbad:¬ (0<=words∧words<=1048576∧0<=oops∧oops<=65536)->Q (.tuple #[.pointer none,.int .i64 1]) H)
  (h1:(0<=words∧words<=1048576∧0<=oops∧oops<=65536)->((br words oops).allocAll aq).1≠0->∀ H',Fr [] H H'->Q (.tuple #[.pointer none,.int .i64 ((br words oops).allocAll aq).1]) H')
  (h2:(0<=words∧words<=1048576∧0<=oops∧oops<=65536)->((br words oops).allocAll aq).1=0->∀ b F H',PK H' b F (d8 words oops) co->Fr [] H H'->(∀ x∈F,H.size<=x)->Q (.tuple #[.pointer (some ⟨b,0,none⟩),.int .i64 0]) H') :
  ac PP A3 #[.int .i64 words,.int .i64 oops] Q H:=by
 have hs1:aF PP 135=some (2,16,some (.agg #[.int .i64 0,.int .i64 0])):=by kernel_rfl
 apply yr
 unfold Ew A0 iV wW pV lV cS;dsimp only [shH]
 refine vQ hk (fun hb=>⟨_,_,rfl,hbad hb⟩) fun hg sb F1 H1 hS1 hf1 hF1=>⟨_,_,rfl,?_⟩
 simp only [show ((0:Int) != 0)=false from rfl,cond_false]
 have h1:=h1 hg
 have h2:=h2 hg
 refine wN (fun hb=>absurd ⟨by decide,by decide⟩ hb) fun _ tb F2 H2 hT2 hf2 hF2=>⟨_,_,rfl,?_⟩
 simp only [show ((0:Int) != 0)=false from rfl,cond_false]
 have hf12:=hf1.trans hf2
 have hS2:=hS1.nilfr hf2
 have hgl:=hk.lt
 have hK3:PK (H2.push (.cells #[.pointer (some ⟨sb,0,none⟩),.pointer (some ⟨tb,0,none⟩)] 84)) H2.size (H2.size :: (F1++F2)) ⟨br words oops,0,[],false,0,0,0⟩ ⟨4096,[]⟩:=by
  have fp:=Fr.push [] H2 (.cells #[.pointer (some ⟨sb,0,none⟩),.pointer (some ⟨tb,0,none⟩)] 84)
  have l1:=hS2.lt
  have l1':=hS1.lt
  have l2:=hT2.lt
  refine ⟨sb,tb,F1,F2,rfl,fun hm=>absurd (l1 _ hm) (Nat.lt_irrefl _),fun hm=>absurd (l2 _ hm) (Nat.lt_irrefl _),fun x hx hx2=>?_,?_,fun hm=>?_,ba.new _ _ _,hS2.nilfr fp,hT2.fr fp (bY.nil_right _)⟩
  ·have:=hF2 x hx2;have:=l1' x hx;omega
  ·have:=hf12.1;omega
  ·have:=hF2 _ hm;have:=hf1.1;omega
 have hf3:Fr [] H (H2.push (.cells #[.pointer (some ⟨sb,0,none⟩),.pointer (some ⟨tb,0,none⟩)] 84)):=hf12.more
 have hF3:∀ x∈H2.size :: (F1++F2),H.size<=x:=fun x hx=>by
  rcases List.mem_cons.1 hx with rfl | hx
  ·exact hf12.1
  ·rcases List.mem_append.1 hx with hx | hx
   ·exact hF1 x hx
   ·exact Nat.le_trans hf1.1 (hF2 x hx)
 generalize hH3:(H2.push (.cells #[.pointer (some ⟨sb,0,none⟩),.pointer (some ⟨tb,0,none⟩)] 84))=H3 at hK3 hf3 ⊢
 generalize (H2.size :: (F1++F2))=F3 at hK3 hF3
 apply rU
 unfold Eh A0 sV lV
 refine ⟨_,_,_,rfl,?_⟩
 have hlt3:=hK3.lt
 have hO0:bF 2 (H3.push (.cells (bV [(5,0),(6,0),(7,0)]).toArray 134)) (some ⟨H3.size,0,none⟩) 3 3 (bV [(5,0),(6,0),(7,0)]) [H3.size]:=⟨rfl,Nat.le_refl _,.inr ⟨H3.size,_,rfl,rfl,ba.new _ _ _,rfl,rfl⟩⟩
 have fq:Fr [] H3 (H3.push (.cells (bV [(5,0),(6,0),(7,0)]).toArray 134)):=Fr.push _ _ _
 generalize hH4:(H3.push (.cells (bV [(5,0),(6,0),(7,0)]).toArray 134))=H4 at hO0 fq
 have hO1:bF 2 (H4.push (.cells (aX bn).toArray 9)) (some ⟨H3.size,0,none⟩) 3 3 (bV [(5,0),(6,0),(7,0)]) [H3.size]:=hO0.fr (Fr.push [] _ _) (by simp)
 have fr1:Fr [] H3 (H4.push (.cells (aX bn).toArray 9)):=fq.more
 show ∃(I11:List Value->ae->Prop) (μ11:List Value->ae->Nat),I11 [.slice (some ⟨H3.size,0,none⟩) 3 3,.int .i64 0] ((H3.push (.cells (bV [(5,0),(6,0),(7,0)]).toArray 134)).push (.cells (aX bn).toArray 9))∧_
 rw [hH4]
 generalize (H4.push (.cells (aX bn).toArray 9))=H5 at hO1 fr1 ⊢
 refine ⟨fun w H'=>∃(i:Nat) (a:Option Addr) (l c:Nat) (G:aA),w=[.slice a l c,.int .i64 i]∧i<=14∧bF 2 H' a l c (bV ([(5,0),(6,0),(7,0)]++List.replicate i (12,7))) G∧Fr [] H3 H'∧(∀ x∈G,H3.size<=x),fun w _=>match w with
  | [_,.int _ i]=>(14-i).toNat
  | _=>0,⟨0,_,_,_,_,rfl,by decide,hO1,fr1,by simp⟩,?_⟩
 rintro w H6 ⟨i,a,l,c,G,rfl,hi,ho,hf6,hG⟩ _
 have hl:l=3+i:=by have:=ho.len;rw [qL] at this;simp at this;omega
 refine ⟨_,_,_,_,rfl,?_⟩
 rw [af]
 refine ay (fun hlt=>?_) fun hlt=>?_
 ·have e1:IntKind.wrap .i64 ((i:Int)+1)=((i+1:Nat):Int):=by rw [ag (by omega) (by omega)];omega
  refine bt hs1 rfl (by kernel_rfl) ho rfl (by simp [dA]) (by omega) (by decide) (by decide) fun a' c' G2 H7 g1 g2 g3=>⟨_,_,_,rfl,?_⟩
  obtain ⟨f7,hG7⟩:=Up.fresh hf6 g2 hG
  rw [e1]
  refine ⟨⟨i+1,a',l+1,c',G2,rfl,by omega,?_,f7,hG7⟩,by simp;omega⟩
  rw [List.replicate_succ',←List.append_assoc,hZ]
  exact g1
 have hi14:i=14:=by omega
 subst hi14
 have fl:Fr [] H6 (H6.push (.cells (bV [(11,0),(11,8),(11,14)]).toArray 134)):=Fr.push _ _ _
 refine cI (l2:=3) (ys:=bV [(11,0),(11,8),(11,14)]) hs1 rfl (by kernel_rfl) (ho.fr fl (by simp)) ⟨rfl,(fun h=>by cases h),fun p hp k hk'=>?_⟩ (ra _) (by omega) (by decide) (by decide) fun a' c' G2 H7 g1 g2 g3=>⟨_,_,_,rfl,?_⟩
 ·cases hp
  rw [ah,Nat.zero_add]
  exact ((ba.new H6 (bV [(11,0),(11,8),(11,14)]).toArray 134).cell k).trans (by simp)
 obtain ⟨f7,hG7⟩:=Up.fresh (hf6.trans fl) g2 hG
 rw [←hZ] at g1
 have ep:[(5,0),(6,0),(7,0)]++List.replicate 14 (12,7)++[(11,0),(11,8),(11,14)]=aq:=rfl
 rw [ep] at g1
 subst hl
 have hr7:Rd 2 H7 a' 20 (bV aq):=g1.rd
 have ho7:rR H7 a' F3:=fun p hp=>by
  have hlt:=g1.lt
  rcases g1.2.2 with ⟨h3,_⟩ | ⟨b',cs,h3,h4,_⟩
  ·rw [h3] at hp;cases hp
  ·rw [h3] at hp;cases hp
   have hb':b'∈G2:=by rw [h4];simp
   exact ⟨hlt _ hb',fun hm=>by have h5:=hG7 _ hb';have h6:=hlt3 _ hm;simp only at h6;omega⟩
 have hK7:=hK3.nil f7
 have hc3:aa H3 ⟨H2.size,0,none⟩=some (.pointer (some ⟨sb,0,none⟩)):=by rw [←hH3];exact (ba.new H2 _ _).cell 0
 have hc7:aa H7 ⟨H2.size,0,none⟩=some (.pointer (some ⟨sb,0,none⟩)):=by rw [ce f7 (by simp) (eD hc3)];exact hc3
 have hf7:=hf3.trans f7
 have h20:aq.length=20:=rfl
 refine ⟨fun w H'=>∃(k:Nat) (r:RH) (st:List Int) (F':aA),w=[.int .i64 k]∧k<=20∧PK H' H2.size F' ⟨r,0,st,false,0,0,0⟩ ⟨4096,[]⟩∧Up F3 H7 F' H'∧st.length=k∧aa H' ⟨H2.size,0,none⟩=some (.pointer (some ⟨sb,0,none⟩))∧r.allocAll (aq.drop k)=(br words oops).allocAll aq,fun w _=>match w with
  | [.int _ k]=>(20-k).toNat
  | _=>0,⟨0,_,_,_,rfl,by decide,hK7,Up.refl _ _,rfl,hc7,rfl⟩,?_⟩
 rintro w H8 ⟨k,r,st,F8,rfl,hk20,hK8,hu8,hst,hcb,hall⟩ _
 refine ⟨_,rfl,?_⟩
 rw [af]
 refine ay (fun hlt=>?_) fun hlt=>?_
 ·have hkl:k<aq.length:=by omega
  have e1:IntKind.wrap .i64 ((k:Int)+1)=((k+1:Nat):Int):=by rw [ag (by omega) (by omega)];omega
  have hr8:Rd 2 H8 a' 20 (bV aq):=hr7.fr' hu8.1 fun p hp=>(ho7 p hp).2
  have hpb:=oM k hkl
  obtain ⟨q0,q1⟩:=qZ hkl
  have ed:aq.drop k=aq[k] :: aq.drop (k+1):=List.drop_eq_getElem_cons hkl
  rw [ed] at hall
  have hex:∃ q,a'=some q:=by
   cases ha:a' with
   | none=>have:=hr8.2.1 ha;omega
   | some q=>exact ⟨q,rfl⟩
  obtain ⟨q,rfl⟩:=hex
  have c0:=hr8.2.2 q rfl (k*2) (by omega)
  have c1:=hr8.2.2 q rfl (k*2+1) (by omega)
  rw [q0] at c0
  rw [q1] at c1
  have eadd:(q.add (k*2)).add 1=q.add (k*2+1):=Addr.add_add _ _ _
  refine ⟨⟨by omega,by omega⟩,_,rfl,_,by rw [Int.toNat_natCast];exact c0,_,by rw [Int.toNat_natCast,eadd];exact c1,?_⟩
  have fpx:Fr [] H8 (H8.push (.cells #[.int .i64 0,.int .i64 0] 134)):=Fr.push _ _ _
  have hBx:=ba.new H8 #[.int .i64 0,.int .i64 0] 134
  generalize (H8.push (.cells #[.int .i64 0,.int .i64 0] 134))=H9 at fpx hBx ⊢
  have hB9:=(hBx.set 0 (.int .i64 (aq[k]).1)).set 1 (.int .i64 (aq[k]).2)
  have f9:Fr [] H8 (az (az H9 ⟨H8.size,0,none⟩ (.int .i64 (aq[k]).1)) ⟨H8.size,1,none⟩ (.int .i64 (aq[k]).2)):=Fr.late (Fr.late fpx (Nat.le_refl _)) (Nat.le_refl _)
  refine ⟨hBx.wr (o:=0) (by simp),(hBx.set 0 _).wr (o:=1) (by simp),?_⟩
  show ∃ n25:Int,aa (az (az H9 ⟨H8.size,0,none⟩ (.int .i64 (aq[k]).1)) ⟨H8.size,1,none⟩ (.int .i64 (aq[k]).2)) ⟨H8.size,0,none⟩=some (.int .i64 n25)∧∃ n26:Int,aa (az (az H9 ⟨H8.size,0,none⟩ (.int .i64 (aq[k]).1)) ⟨H8.size,1,none⟩ (.int .i64 (aq[k]).2)) ⟨H8.size,1,none⟩=some (.int .i64 n26)∧ac PP qq _ _ (az (az H9 ⟨H8.size,0,none⟩ (.int .i64 (aq[k]).1)) ⟨H8.size,1,none⟩ (.int .i64 (aq[k]).2))
  generalize (az (az H9 ⟨H8.size,0,none⟩ (.int .i64 (aq[k]).1)) ⟨H8.size,1,none⟩ (.int .i64 (aq[k]).2))=HA at hB9 f9 ⊢
  have hKA:=hK8.nil f9
  obtain ⟨sbA,FA,hcA,hSA,hsubA,hbA,hupA,hupA2⟩:=hKA.sp
  have esb:sbA=sb:=by rw [ce f9 (by simp) (eD hcb),hcb] at hcA;simpa using hcA.symm
  subst esb
  refine ⟨_,hB9.cell 0,_,hB9.cell 1,cl hSA fun hb FB hRB hsubB hupB=>⟨_,rfl,⟨⟨hB9.cell 1,trivial⟩,⟨hB9.cell 0,trivial⟩,trivial⟩,bO hpb ⟨_,rfl,⟨⟨hB9.cell 1,trivial⟩,trivial⟩,mK hRB fun HB' hRB' hfB=>⟨_,_,rfl,trivial,?_⟩⟩⟩⟩
  have hSB:=hupB HB' _ hRB' hfB
  have hKB:=hupA2 HB' _ hSB (hfB.mono hsubB)
  have huB:Up F8 HA F8 HB':=⟨(hfB.mono hsubB).mono hsubA,fun _ h=>.inl h⟩
  have hu8B:Up F3 H7 F8 HB':=hu8.trans ((Up.of_nil f9).trans huB)
  rw [kX] at hall
  rw [aT,af]
  refine ay (fun he=>?_) fun he=>?_
  ·rw [if_pos he] at hall
   have e0:((br words oops).allocAll aq).1=(r.alloc (4*(aq[k]).1) (aq[k]).2 0).1.2:=by rw [←hall]
   have:=h1 (by rw [e0];exact he) HB' ?_
   ·rw [e0] at this;exact this
   ·exact (Up.fresh hf7 hu8B hF3).1
  rw [if_neg he] at hall
  have hz:(r.alloc (4*(aq[k]).1) (aq[k]).2 0).1.2=0:=Classical.byContradiction he
  have hob:=fT hK8.wfs.h hz
  refine bO ⟨hob.2.1,hob.2.2.1⟩ ⟨_,rfl,?_⟩
  have fpy:Fr [] HB' (HB'.push (.cells #[.int .i64 (4*(r.alloc (4*(aq[k]).1) (aq[k]).2 0).1.1)] 24)):=Fr.push _ _ _
  have hKC:=hKB.nil fpy
  obtain ⟨sbC,FC,hcC,hSC,hsubC,hbC,hupC,_⟩:=hKC.sp
  have hcB':aa HB' ⟨H2.size,0,none⟩=some (.pointer (some ⟨sbA,0,none⟩)):=by rw [ce hfB (fun hm=>hbA (hsubB _ hm)) (eD hcA)];exact hcA
  have hcP:=ce fpy (b:=H2.size) (o:=0) (by simp) (eD hcB')
  rw [hcB'] at hcP
  have esb:sbC=sbA:=by rw [hcP] at hcC;simpa using hcC.symm
  subst esb
  have hkw:=ln (s:=⟨(r.alloc (4*(aq[k]).1) (aq[k]).2 0).2,0,st,false,0,0,0⟩) (bZ hob.2.1 hob.2.2.1) (by show st.length<65536;omega)
  refine kw hSC (kb (cs:=[4*(r.alloc (4*(aq[k]).1) (aq[k]).2 0).1.1])) (by decide) fun HD FD hSD huD=>⟨_,rfl,?_⟩
  rw [hkw] at hSD ⊢
  simp only [show ((0:Int) != 0)=false from rfl,cond_false]
  obtain ⟨FE,hKE,huE⟩:=hupC HD FD _ hSD huD
  rw [e1]
  exact ⟨⟨k+1,_,_,FE,rfl,by omega,hKE,hu8B.trans ((Up.of_nil fpy).trans huE),by simp [hst],by rw [ce huD.1 hbC (eD hcC)];exact hcC,hall⟩,by simp;omega⟩
 ·have hk20':k=20:=by omega
  subst hk20'
  have ez:aq.drop 20=[]:=rfl
  rw [ez] at hall
  have hall':(0,r)=(br words oops).allocAll aq:=hall
  have hz:((br words oops).allocAll aq).1=0:=by rw [←hall']
  have hrr:r=((br words oops).allocAll aq).2:=by rw [←hall']
  have hbH:dH r=bu words oops:=by rw [hrr];exact rc _ _
  have hro:r.objs=fE:=by rw [hrr];exact rB hz
  obtain ⟨sb8,F9,hc8,hS8,_⟩:=hK8.sp
  obtain ⟨hb8,_,_,hcx,_⟩:=hS8.upd
  have esb8:sb8=sb:=by rw [hcb] at hc8;simpa using hc8.symm
  subst esb8
  refine yS hK8 ⟨hc8,hcx⟩ (fun j x hx=>?_) fun H9 FA hKA hBA huA=>⟨rfl,?_⟩
  ·rw [hro] at hx
   exact of_decide_eq_true (List.all_eq_true.1 rM x (au hx).1)
  have hKA':PK H9 H2.size FA ⟨bu words oops,0,st,false,0,0,0⟩ co:=by rw [←hbH];exact hKA
  obtain ⟨sbA,F10,hcA,hSA,hsubA,hbA,_,hupA⟩:=hKA'.sp
  have esb:sbA=sb8:=by have:=hBA.1;rw [hcA] at this;simpa using this
  subst esb
  have hwf:WFH (bu words oops):=hKA'.wfs.h
  have hcl:((bu words oops).clsAt 19).2=0:=rn hwf hz
  refine qy hSA fun HB hSB hfB=>⟨_,rfl,?_⟩
  have ecr:(SP.crown ⟨bu words oops,0,st,false,0,0,0⟩ 19)=(0,⟨bu words oops,19,st,false,0,0,0⟩):=by
   unfold SP.crown
   rw [if_neg (by simpa using hcl)]
  rw [ecr] at hSB
  have hKB:=hupA HB _ hSB hfB
  obtain ⟨sbB,F11,hcB,hSB',hsubB,_,_,hupB⟩:=hKB.sp
  have esb:sbB=sbA:=by rw [ce hfB hbA (eD hcA),hcA] at hcB;simpa using hcB.symm
  subst esb
  refine nP hSB' ⟨by decide,by decide⟩ fun HC hSC hfC=>⟨_,rfl,?_⟩
  have edr:(SP.drop ⟨bu words oops,19,st,false,0,0,0⟩ ((20:Nat):Int))=(0,d8 words oops):=by
   unfold SP.drop
   rw [if_neg (by simp only [hst];decide)]
   simp [hst,d8]
  have e20:((3+14+3:Nat):Int)=((20:Nat):Int):=rfl
  rw [edr] at hSC
  have hKC:=hupB HC _ hSC hfC
  have huC:Up F3 H7 FA HC:=(hu8.trans huA).trans ⟨(hfB.mono hsubA).trans (hfC.mono hsubB),fun _ h=>.inl h⟩
  have:=Up.fresh hf7 huC hF3
  exact h2 hz H2.size FA HC hKC this.1 this.2
end
end Go.Proofs.YtgcoppcogllpbaaGreatDoor
namespace Kw
open Go
def fD (l:List (Int × Int)):Int:=(l.map fun p=>2+p.2).sum
theorem kO:∀ (l:List (Int × Int)){r:RH}{k:Nat}{m:Int},RoomyK r (k+l.length) (m+fD l)->0<=m->(∀ p∈l,1<=p.1∧p.1<=65536∧0<=p.2∧p.2<=8192)->(r.allocAll l).1=0∧RoomyK (r.allocAll l).2 k m:=by
 intro l
 induction l with
 | nil=>intro r k m h _ _;exact ⟨rfl,h.less (by simp) (by simp [fD])⟩
 | cons p l ih =>
  intro r k m h hm hp
  obtain ⟨c,n⟩:=p
  obtain ⟨h1,h2,h3,h4⟩:=hp (c,n) (by simp)
  simp only at h1 h2 h3 h4
  have hi:cN (4*c):=bZ h1 h2
  have hpos:0<=fD l:=by
   have:∀ l:List (Int × Int),(∀ p∈l,0<=p.2)->0<=fD l:=by
    intro l
    induction l with
    | nil=>intro _;simp [fD]
    | cons q l ih2 =>
     intro h
     have a1:=h q (by simp)
     have a2:=ih2 fun x hx=>h x (by simp [hx])
     unfold fD at a2 ⊢
     simp only [List.map_cons,List.sum_cons]
     omega
   exact this l fun q hq=>(hp q (by simp [hq])).2.2.1
  have hlen:lenOf n 0=2+n:=by unfold lenOf;rw [if_neg (by decide)]
  have hR:RoomyK r ((k+l.length)+1) ((m+fD l)+lenOf n 0):=by
   rw [hlen]
   refine h.less (by simp only [List.length_cons];omega) ?_
   unfold fD
   simp only [List.map_cons,List.sum_cons]
   omega
  obtain ⟨e1,hr⟩:=gJ (cls:=4*c) hR (by omega) hi (.inl rfl) h3 h4
  unfold RH.allocAll
  have e0:(r.alloc (4*c) n 0).1.2=0:=by rw [e1]
  rw [if_neg (by rw [e0];simp)]
  exact ih hr hm fun q hq=>hp q (by simp [hq])
theorem oO {k:Nat}{m:Int}:∀ (n:Nat){r:RH},RoomyK r k m->RoomyK (gA r n) k m:=by
 intro n
 induction n with
 | zero=>intro r h;exact h
 | succ n ih =>
  intro r h
  unfold gA xH
  exact g9 (kh (ih h) _ _ _) _ _ _
theorem lp {words oops:Int}{k:Nat}{m:Int} (hw:words=160+m) (ho:oops=20+k) (hm:0<=m):((br words oops).allocAll aq).1=0∧RoomyK (bu words oops) k m:=by
 have h0:RoomyK (br words oops) (k+aq.length) (m+fD aq):=by
  refine ⟨rfl,?_,?_⟩
  ·show ((0:Nat):Int)+((k+20:Nat):Int)<=oops
   omega
  ·show (0:Int)+(m+fD aq)<=words
   have:fD aq=160:=by decide
   omega
 obtain ⟨e1,e2⟩:=kO aq h0 hm (by decide)
 refine ⟨e1,?_⟩
 unfold bu dH
 exact kh (oO 14 e2) _ _ _
abbrev dv:ByteArray:=⟨#[80,97,105,114]⟩
abbrev kE:ByteArray:=⟨#[79,98,106,101,99,116]⟩
abbrev xB:ByteArray:=⟨#[120]⟩
abbrev yB:ByteArray:=⟨#[121]⟩
theorem ja {lo hi:Nat}{s:ByteArray} (h1:1<=s.size) (h2:s.size<=32) (h3:lo<=gB s 0) (h4:gB s 0<=hi) (h:(List.range s.size).all (fun i=>decide (cy (gB s i)))=true):fx lo hi s :=
 ⟨h1,h2,h3,h4,fun i hi=>by simpa using List.all_eq_true.1 h i (List.mem_range.2 hi)⟩
theorem wZ {words oops:Int} (hb:KAll (d8 words oops) co bx):jb bx co dv kE [xB,yB]=(4,0):=by
 have hf:bE bx 0=[]:=hb.ks.fields0 (by decide)
 have n1:fx 65 90 dv:=ja (by decide) (by decide) (by decide) (by decide) (by decide)
 have f1:eA xB:=⟨by decide,ja (by decide) (by decide) (by decide) (by decide) (by decide)⟩
 have f2:eA yB:=⟨by decide,ja (by decide) (by decide) (by decide) (by decide) (by decide)⟩
 have e1:dB bx co dv=(0,130):=by decide
 have e2:dB bx co kE=(4,0):=by decide
 have e3:kF bx 4=some 0:=by decide
 have t1:¬ fM bx co dv:=by
  unfold fM
  rw [e1]
  rintro (h | h)
  ·simp at h
  ·simp [dW,bx] at h
 have o1:kv ([]:List ByteArray) [] [xB,yB]=0:=by
  unfold kv kv kv
  rw [if_neg (fun h=>h f1),if_neg (by simp),if_neg (by simp),if_neg (fun h=>h f2),if_neg (by simp),if_neg (by simp)]
 unfold jb
 rw [if_neg (fun h=>h n1),if_neg t1,e2,if_neg (by simp)]
 simp only [e3]
 rw [if_neg (by omega),hf]
 simp only [List.map_nil,o1]
 rw [if_neg (by simp),if_neg (by simp),if_neg (by decide)]
end Kw
namespace Kw
open Go
attribute [local irreducible] bu dH fE
theorem qW {words oops:Int}{k:Nat}{m:Int} (hw:words=160+(m+30)) (ho:oops=20+((k+3:Nat):Int)) (hm:0<=m) (h1:words<=1048576) (h2:oops<=65536) :
  (bh (d8 words oops) bx co dv kE [xB,yB]).1.2=0∧RoomyK (bh (d8 words oops) bx co dv kE [xB,yB]).2.1.h k m∧(bh (d8 words oops) bx co dv kE [xB,yB]).2.2.texts.length<=17∧(bh (d8 words oops) bx co dv kE [xB,yB]).2.2.most=4096 ∧
  ∃ n ns l d,KAll (bh (d8 words oops) bx co dv kE [xB,yB]).2.1 (bh (d8 words oops) bx co dv kE [xB,yB]).2.2 (bx.addC ⟨(bh (d8 words oops) bx co dv kE [xB,yB]).1.1,n,4,ns,l,18,18,[],[],0⟩ d):=by
 obtain ⟨e0,hR⟩:=lp (k:=k+3) (m:=m+30) hw ho (by omega)
 have hb:=pR (words:=words) (oops:=oops) (by omega) h1 (by omega) h2 e0
 have hd:=wZ hb
 have e:bh (d8 words oops) bx co dv kE [xB,yB]=bo (d8 words oops) co bx.clsW dv 4 [xB,yB]:=by
  unfold bh
  rw [if_neg (by rw [hd];simp),hd]
 rw [e]
 have g1:bk dv:=by decide
 have g2:∀ s∈[xB,yB],bk s:=by
  intro s hs
  simp only [List.mem_cons,List.not_mem_nil,or_false] at hs
  rcases hs with rfl | rfl <;> decide
 obtain ⟨a1,a2,a3,a4⟩:=mG (k:=k) (m:=m) hb.ks (by rw [hb.stack];decide) hb.names.wf (up:=4) (by decide) (by decide) g1 g2 (by decide) (by decide) (by
  have:bx.cls.length=14:=rfl
  rw [this]
  have h2l:([xB,yB]:List ByteArray).length=2:=rfl
  rw [h2l]
  exact hR.less (by omega) (by omega)) hm
 have hno:∀ c∈bx.cls,tx co c.name≠dv:=by decide
 have hk:=(ph hb (j:=0) (by decide) (by decide) (name:=dv) (own:=[xB,yB]) hno).2
 have e4:(bx.cls[0]'(by decide)).oop=4:=rfl
 rw [e4] at hk
 obtain ⟨n,ns,l,d,hall,_⟩:=hk a1
 exact ⟨a1,a2,a3,a4,n,ns,l,d,hall⟩
end Kw
namespace Go.Proofs.YtgcoppcogllpbaaGreatDoor
open Kw
attribute [local irreducible] bu dH fE
def B8 (v:KV):Prop:=∃ oop n ns l d,v=bx.addC ⟨oop,n,4,ns,l,18,18,[],[],0⟩ d
section
variable {H:ae}{db:Nat}{D:aA}{s:SP}{t:TB}{v:KV}{ws:List Int}{N:Nat}{Q:QT}
theorem tR (hD:SD H db D s t v ws N) (hN:N+1<60000){w:Int} (h:∀ H' D' s' ws',SD H' db D' s' t v ws' (N+1)->s'.h=s.h->Up D H D' H'->Q (.tuple #[]) H'):ac PP xp #[.pointer (some ⟨db,0,none⟩),.int .i64 w] Q H:=by
 have g1:=hD.st
 have g2:=hD.wl
 obtain ⟨k1,k2,k3⟩:=iO hD.all w (by omega)
 exact pI hD.dk (by omega) fun H' D' hD' u=>h H' D' _ _ ⟨hD',k1,by omega,by simp;omega⟩ k2 u
theorem wz {words oops:Int}{k:Nat}{m:Int} (hw:words=160+(m+30)) (ho:oops=20+((k+3:Nat):Int)) (hm:0<=m) (h1:words<=1048576) (h2:oops<=65536) (hk:bR H) (ht:dG H)
  (h:∀ H' db D s t v ws,SD H' db D s t v ws 10->RoomyK s.h k m->t.texts.length<=17->t.most=4096->B8 v->Fr [] H H'->(∀ x∈D,H.size<=x)->Q (.pointer (some ⟨db,0,none⟩)) H') :
  ac PP Eg #[.int .i64 words,.int .i64 oops] Q H:=by
 obtain ⟨e0,_⟩:=lp (words:=words) (oops:=oops) (k:=k+3) (m:=m+30) hw ho (by omega)
 have hall:=pR (words:=words) (oops:=oops) (by omega) h1 (by omega) h2 e0
 obtain ⟨p1,p2,p3,p4,n,ns,l,d,hall2⟩:=qW hw ho hm h1 h2
 apply Bp
 unfold k8 A0 iV wW pV sV lV cS
 refine uK hk (fun hb=>absurd ⟨by omega,h1,by omega,h2⟩ hb) (fun _ he=>absurd e0 he) fun _ _ b F H1 hK1 f1 hF1=>⟨_,_,rfl,?_⟩
 simp only [Option.isNone_some,cond_false]
 refine iQ ⟨_,rfl,?_⟩
 simp only [show ((0:Int) != 0)=false from rfl,cond_false]
 have fp:=Fr.push [] H1 (.cells #[.string xB,.string yB] 9)
 have hr:Rd 1 (H1.push (.cells #[.string xB,.string yB] 9)) (some ⟨H1.size,0,none⟩) 2 (aX [xB,yB]):=(show bF 1 (H1.push (.cells #[.string xB,.string yB] 9)) (some ⟨H1.size,0,none⟩) 2 2 (aX [xB,yB]) [H1.size] from ⟨rfl,Nat.le_refl _,.inr ⟨_,_,rfl,rfl,ba.new _ _ _,rfl,rfl⟩⟩).rd
 have hnF:H1.size∉F:=fun hm=>by have:=hK1.lt _ hm;omega
 refine qU (hK1.nil fp) hall.w hr (.inr fun p hp=>?_) (Nat.le_refl _) (by decide) fun H3 F3 hK3 u3=>⟨_,_,rfl,iQ ⟨_,rfl,?_⟩⟩
 ·cases hp
  exact ⟨by simp,hnF⟩
 rw [p1]
 simp only [show ((0:Int) != 0)=false from rfl,cond_false]
 generalize (bh (d8 words oops) bx co dv kE [xB,yB])=R at p1 p2 p3 p4 hall2 hK3 ⊢
 have f13:Fr [] H H3:=by
  have fq:Fr [] H (H1.push (.cells #[.string xB,.string yB] 9)):=f1.trans fp
  refine ⟨Nat.le_trans fq.1 u3.1.1,fun y hy _=>?_⟩
  rw [u3.1.2 y (Nat.lt_of_lt_of_le hy fq.1) (fun hm=>by have:=hF1 y hm;omega),fq.2 y hy (by simp)]
 have hF3:∀ x∈F3,H.size<=x:=fun x hx=>by
  rcases u3.2 x hx with h4 | h4
  ·exact hF1 x h4
  ·have:=(f1.trans fp).1;omega
 have hgk:=hk.lt
 have hlt3:=hK3.lt
 have fa:=Fr.push [] H3 (.cells #[.pointer (some ⟨b,0,none⟩),.slice none 0 0] 52)
 have hB:=ba.new H3 #[.pointer (some ⟨b,0,none⟩),.slice none 0 0] 52
 have sz:(H3.push (.cells #[.pointer (some ⟨b,0,none⟩),.slice none 0 0] 52)).size=H3.size+1:=by simp
 have hK4:=hK3.nil fa
 generalize (H3.push (.cells #[.pointer (some ⟨b,0,none⟩),.slice none 0 0] 52))=H4 at fa hB sz hK4 ⊢
 have fb:=Fr.push [] H4 (.cells #[.int .i64 4,.int .i64 12,.int .i64 8,.int .i64 7,.int .i64 16,.int .i64 32,.int .i64 40,.int .i64 44,.int .i64 2,.int .i64 (IntKind.wrap .i64 (4*R.1.1))] 24)
 have hA:ba (H4.push (.cells #[.int .i64 4,.int .i64 12,.int .i64 8,.int .i64 7,.int .i64 16,.int .i64 32,.int .i64 40,.int .i64 44,.int .i64 2,.int .i64 (IntKind.wrap .i64 (4*R.1.1))] 24)) H4.size (aj [4,12,8,7,16,32,40,44,2,IntKind.wrap .i64 (4*R.1.1)]).toArray:=ba.new _ _ _
 have hD0:DK (H4.push (.cells #[.int .i64 4,.int .i64 12,.int .i64 8,.int .i64 7,.int .i64 16,.int .i64 32,.int .i64 40,.int .i64 44,.int .i64 2,.int .i64 (IntKind.wrap .i64 (4*R.1.1))] 24)) H3.size (H3.size :: ([]++F3)) R.2.1 R.2.2 []:=by
  refine ⟨b,F3,none,0,0,[],rfl,hB.fr fb (by simp),bF.nil 1 _,hK4.nil fb,fun hm=>by have:=hlt3 _ hm;omega,by simp,bY.nil_left _,?_⟩
  simp only [List.nil_append,List.mem_cons,not_or]
  have:=f13.1
  have htl:=ht.lt
  refine ⟨⟨by omega,hK3.gk⟩,⟨by omega,fun hm=>by have:=hF3 _ hm;omega⟩,((ht.fr f13 (by simp)).fr fa (by simp)).fr fb (by simp)⟩
 generalize (H4.push (.cells #[.int .i64 4,.int .i64 12,.int .i64 8,.int .i64 7,.int .i64 16,.int .i64 32,.int .i64 40,.int .i64 44,.int .i64 2,.int .i64 (IntKind.wrap .i64 (4*R.1.1))] 24))=H5 at fb hA hD0 ⊢
 have hS0:SD H5 H3.size (H3.size :: ([]++F3)) R.2.1 R.2.2 (bx.addC ⟨R.1.1,n,4,ns,l,18,18,[],[],0⟩ d) [] 0:=⟨hD0,hall2.w,by rw [hall2.stack];exact Nat.le_refl _,Nat.le_refl _⟩
 have hnA:H4.size∉H3.size :: ([]++F3):=by
  simp only [List.nil_append,List.mem_cons,not_or]
  exact ⟨by omega,fun hm=>by have:=hlt3 _ hm;omega⟩
 have hA5:=hA.lt
 refine ⟨fun w H'=>∃(i:Nat) (D':aA) (s':SP) (ws':List Int),w=[.int .i64 i]∧i<=10∧SD H' H3.size D' s' R.2.2 (bx.addC ⟨R.1.1,n,4,ns,l,18,18,[],[],0⟩ d) ws' i∧s'.h=R.2.1.h∧Up (H3.size :: ([]++F3)) H5 D' H',fun w _=>match w with
  | [.int _ i]=>((10:Int)-i).toNat
  | _=>0,⟨0,_,_,_,rfl,Nat.zero_le _,hS0,rfl,Up.refl _ _⟩,?_⟩
 rintro w H6 ⟨i,D6,s6,ws6,rfl,hi,hS6,e6,u6⟩ _
 have hA6:=hA.fr u6.1 hnA
 refine ⟨_,rfl,iK (fun hlt=>?_) fun hge=>?_⟩
 ·have hil:i<10:=by omega
  have e1:IntKind.wrap .i64 ((i:Int)+1)=((i+1:Nat):Int):=by rw [ag (by omega) (by omega)];omega
  have hc:=hA6.cell i
  have hex:∃ x:Int,(aj [4,12,8,7,16,32,40,44,2,IntKind.wrap .i64 (4*R.1.1)]).toArray[i]?=some (.int .i64 x):=by
   rcases i with _ | _ | _ | _ | _ | _ | _ | _ | _ | _ | i
   all_goals first | exact ⟨_,rfl⟩ | omega
  obtain ⟨x,hx⟩:=hex
  rw [hx] at hc
  refine ⟨⟨by omega,hlt⟩,_,rfl,x,by rw [Int.toNat_natCast,Nat.mul_one,ah,Nat.zero_add];exact hc,tR hS6 (by omega) fun H7 D7 s7 ws7 hS7 e7 u7=>⟨rfl,?_⟩⟩
  rw [e1]
  exact ⟨⟨i+1,D7,s7,ws7,rfl,by omega,hS7,e7.trans e6,u6.trans u7⟩,by simp;omega⟩
 ·have hi10:i=10:=by omega
  subst hi10
  refine h H6 H3.size D6 s6 R.2.2 _ ws6 hS6 (by rw [e6];exact p2) p3 p4 ⟨_,_,_,_,_,rfl⟩ ?_ fun x hx=>?_
  ·have f35:Fr [] H H5:=(f13.trans fa).trans fb
   refine ⟨Nat.le_trans f35.1 u6.1.1,fun y hy _=>?_⟩
   rw [u6.1.2 y (Nat.lt_of_lt_of_le hy f35.1) (fun hm=>?_),f35.2 y hy (by simp)]
   simp only [List.nil_append,List.mem_cons] at hm
   have:=f13.1
   rcases hm with hm | hm
   ·omega
   ·have:=hF3 y hm;omega
  ·have:=f13.1
   rcases u6.2 x hx with h4 | h4
   ·simp only [List.nil_append,List.mem_cons] at h4
    rcases h4 with rfl | h4
    ·omega
    ·exact hF3 x h4
   ·have:=((f13.trans fa).trans fb).1;omega
end
end Go.Proofs.YtgcoppcogllpbaaGreatDoor
namespace Go.Proofs.YtgcoppcogllpbaaGreatDoor
open Kw
def dK (n:Int):ByteArray:=⟨(Lib.itoa n).toArray⟩
theorem jV {n:Int} (h:fg n):(dK n).size<=11:=by
 have:=sH h.1 h.2
 unfold dK
 show (Lib.itoa n).toArray.size<=11
 simpa using this
theorem dG.is {H : ae} (h : dG H) : ∀ w : World, w.heap = H -> Lib.TabIs PP w "internal/strconv.uint64pow10" .u64 Lib.pow10Tab := by
 intro w hw
 obtain ⟨e,h⟩:=h
 have hg : PP.globalNamed "internal/strconv.uint64pow10" = some gP := by kernel_rfl
 unfold Lib.TabIs World.var?
 rw [hg]
 simp only [Option.bind_some]
 rw [hw,h]
section
variable {H:ae}{b:Nat}{F:aA}{s:SP}{t:TB}{v:KV}{Q:QT}{a:Option Addr}{l c:Nat}
theorem pQ {n:Int} (hn:fg n) (ht:dG H) (h:∀ H',Fr [] H H'->Q (.tuple #[.string (dK n),.int .i64 0]) H'):ac PP DE #[.int .i64 n] Q H:=by
 obtain ⟨h0,h1⟩:=hn
 apply x6
 unfold E1 iV sV cS
 refine oh ⟨h0,h1⟩ ⟨_,rfl,?_⟩
 rw [Bool.not_true,cond_false]
 exact oJ Tryz.itoa ⟨_,Tryz.func47,rfl⟩ (by omega) (by omega) ht.is fun H' f=>⟨_,rfl,h H' f⟩
theorem tj (hK:PK H b F s t) (ht:dG H){n:Int} (hn:fg n) (h:∀ H',PK H' b F (s.makeP 10 1 (bm (dK n))).2 t->Fr F H H'->Q (.tuple #[.int .i64 (s.makeP 10 1 (bm (dK n))).1.1,.int .i64 (s.makeP 10 1 (bm (dK n))).1.2]) H') :
  ac PP sx #[cv b (2*n+1) a l c] Q H:=by
 apply vD
 unfold Bt A0 iV pV sV lV cS;dsimp only [shH]
 have f:=Fr.push [] H (.cells (cc b (2*n+1) a l c) 149)
 have hb:=ba.new H (cc b (2*n+1) a l c) 149
 refine ⟨_,hb.cell 0,_,hb.cell 1,_,_,_,hb.cell 2,ot (hK.nil f) fun H1 f1=>⟨_,rfl,?_⟩⟩
 rw [iC hn]
 have f01:=f.trans f1
 have hb1:=hb.fr f1 (by simp)
 refine pQ hn (ht.fr f01 (by simp)) fun H2 f2=>⟨_,_,rfl,?_⟩
 have f02:=f01.trans f2
 have hb2:=hb1.fr f2 (by simp)
 have hsz:=jV hn
 refine ⟨_,hb2.cell 0,_,hb2.cell 1,_,_,_,hb2.cell 2,yF (hK.nil f02) (by omega) fun H' hK' f'=>⟨_,_,rfl,h H' hK' ?_⟩⟩
 exact ⟨Nat.le_trans f02.1 f'.1,fun y hy hn=>by rw [f'.2 y (Nat.lt_of_lt_of_le hy f02.1) hn,f02.2 y hy (by simp)]⟩
theorem oX (hv:KAllW s t v){n:Int} (hn:fg n):PrimS s t 8 ⟨#[112,114,105,110,116,83,116,114,105,110,103]⟩ (2*n+1) [] (s.makeP 10 1 (bm (dK n))).1 (s.makeP 10 1 (bm (dK n))).2 t:=by
 refine py hv (n:=0) (f:=sx) rfl rfl (fun w hw=>?_) ?_ rfl fun hK ht _ _ h=>tj hK ht hn fun H' hK' f=>h H' _ hK' ⟨f,fun y hy=>.inl hy⟩
 ·simp only [List.mem_cons,List.not_mem_nil,or_false] at hw
  rw [hw,bT hn];decide
 ·rw [bT hn];exact bI v (by decide)
theorem ru (hv:KAllW s t v){n m:Int} (hn:fg n) (hm:fg m):PrimS s t 8 ⟨#[61]⟩ (2*n+1) [2*m+1] (tw (decide (n=m)),0) s t:=by
 have e:decide (2*n+1=2*m+1)=decide (n=m):=decide_eq_decide.2 (by omega)
 refine dm hv (n:=1) (f:=rT) rfl rfl (fun w hw=>?_) ?_ rfl fun _ hr h=>xc hr fun H' f=>by rw [e];exact h H' f
 ·simp only [List.mem_cons,List.not_mem_nil,or_false] at hw
  rcases hw with rfl | rfl
  ·rw [bT hn];decide
  ·rw [bT hm];decide
 ·rw [bT hn];exact bI v (by decide)
theorem pe (hv:KAllW s t v){n m:Int} (hn:fg n) (hm:fg m):PrimS s t 8 ⟨#[126,61]⟩ (2*n+1) [2*m+1] (tw (decide (n≠m)),0) s t:=by
 have e:decide (2*n+1≠2*m+1)=decide (n≠m):=decide_eq_decide.2 (by omega)
 refine dm hv (n:=1) (f:=sL) rfl rfl (fun w hw=>?_) ?_ rfl fun _ hr h=>r0 hr fun H' f=>by rw [e];exact h H' f
 ·simp only [List.mem_cons,List.not_mem_nil,or_false] at hw
  rcases hw with rfl | rfl
  ·rw [bT hn];decide
  ·rw [bT hm];decide
 ·rw [bT hn];exact bI v (by decide)
theorem rI (hv:KAllW s t v){n:Int} (hn:fg n):PrimS s t 8 ⟨#[101,118,101,110]⟩ (2*n+1) [] (tw (decide (n % 2=0)),0) s t:=by
 refine dm hv (n:=0) (f:=tl) rfl rfl (fun w hw=>?_) ?_ rfl fun hK _ h=>ve hK fun H' f=>by rw [iC hn];exact h H' f
 ·simp only [List.mem_cons,List.not_mem_nil,or_false] at hw
  rw [hw,bT hn];decide
 ·rw [bT hn];exact bI v (by decide)
theorem tG (hv:KAllW s t v){n:Int} (hn:fg n):PrimS s t 8 ⟨#[111,100,100]⟩ (2*n+1) [] (tw (decide (n % 2=1)),0) s t:=by
 refine dm hv (n:=0) (f:=t7) rfl rfl (fun w hw=>?_) ?_ rfl fun hK _ h=>yo hK fun H' f=>by rw [iC hn];exact h H' f
 ·simp only [List.mem_cons,List.not_mem_nil,or_false] at hw
  rw [hw,bT hn];decide
 ·rw [bT hn];exact bI v (by decide)
end
theorem Bo:∀ (n m:Int){H:ae}{Q:QT},Q (.bool (decide (n<m))) H->ac PP zW #[.int .i64 n,.int .i64 m] Q H:=fun _ _ {_ _} h=>by
 apply wR
 exact h
theorem A9:∀ (n m:Int){H:ae}{Q:QT},Q (.bool (decide (n > m))) H->ac PP z7 #[.int .i64 n,.int .i64 m] Q H:=fun _ _ {_ _} h=>by
 apply wU
 exact h
theorem BI:∀ (n m:Int){H:ae}{Q:QT},Q (.bool (decide (n<=m))) H->ac PP x9 #[.int .i64 n,.int .i64 m] Q H:=fun _ _ {_ _} h=>by
 apply uV
 exact h
theorem Bu:∀ (n m:Int){H:ae}{Q:QT},Q (.bool (decide (n ≥ m))) H->ac PP zd #[.int .i64 n,.int .i64 m] Q H:=fun _ _ {_ _} h=>by
 apply vX
 exact h
def kY (n m:Int):List (ByteArray × (Int × Int)):=[(⟨#[43]⟩,sl n m),(⟨#[45]⟩,rZ n m),(⟨#[42]⟩,sE n m),(⟨#[47,47]⟩,rv n m),(⟨#[92,92]⟩,rg n m),(⟨#[98,105,116,65,110,100,58]⟩,ti n m),(⟨#[98,105,116,79,114,58]⟩,Cc n m),(⟨#[98,105,116,88,111,114,58]⟩,tD n m),(⟨#[98,105,116,83,104,105,102,116,58]⟩,fO n m)]
def ju (l:List (ByteArray × (Int × Int))):List Value:=l.flatMap fun r=>[.string r.1,.int .i64 r.2.1,.int .i64 r.2.2]
def wH (p:Int × Int):Int × Int:=if p.2≠0 then (0,p.2) else mH p.1
theorem wq (n m:Int):∀ i,i<9->∃ x y e,(kY n m)[i]?=some (x,y,e)∧(ju (kY n m))[i*3]?=some (.string x)∧(ju (kY n m))[i*3+1]?=some (.int .i64 y)∧(ju (kY n m))[i*3+2]?=some (.int .i64 e):=by
 intro i hi
 rcases i with _ | _ | _ | _ | _ | _ | _ | _ | _ | i
 all_goals first | exact ⟨_,_,_,rfl,rfl,rfl,rfl⟩ | omega
section
variable {H:ae}{db:Nat}{D:aA}{s:SP}{t:TB}{v:KV}{ws:List Int}{N:Nat}{Q:QT}{r:Int}
theorem um (hv:KAllW s t v){n m:Int} (hn:fg n) (hm:fg m):∀ i,i<9->∀ x y e,(kY n m)[i]?=some (x,y,e)->PrimS s t 8 x (2*n+1) [2*m+1] (wH (y,e)) s t∧(e=0->fg y):=by
 intro i hi x y e h
 rcases i with _ | _ | _ | _ | _ | _ | _ | _ | _ | i
 ·cases h;exact ⟨cP hv (by rfl) sg hn hm,Aw n m hn hm⟩
 ·cases h;exact ⟨cP hv (by rfl) rW hn hm,x8 n m hn hm⟩
 ·cases h;exact ⟨cP hv (by rfl) sA hn hm,yO n m hn hm⟩
 ·cases h;exact ⟨cP hv (by rfl) tE hn hm,zf n m hn hm⟩
 ·cases h;exact ⟨cP hv (by rfl) tZ hn hm,AF n m hn hm⟩
 ·cases h;exact ⟨cP hv (by rfl) sn hn hm,yv n m hn hm⟩
 ·cases h;exact ⟨cP hv (by rfl) xw hn hm,B3 n m hn hm⟩
 ·cases h;exact ⟨cP hv (by rfl) sG hn hm,yV n m hn hm⟩
 ·have h1:((⟨#[98,105,116,83,104,105,102,116,58]⟩:ByteArray),fO n m)=(x,y,e):=Option.some.inj h
  have h2:=congrArg Prod.fst h1
  have h3:=congrArg Prod.snd h1
  dsimp only at h2 h3
  have:=cP hv (x:=⟨#[98,105,116,83,104,105,102,116,58]⟩) (by rfl) nG hn hm
  have h4:=th n m hn hm
  rw [h3] at h4
  rw [h2,h3] at this
  exact ⟨this,h4⟩
 ·omega
theorem yH (hD:SD H db D s t v ws N) (hN:N+1<60000){k:Int}{x:ByteArray}{ar:List Int}{res:Int × Int} (hp:PrimS s t k x r ar res s t){a:Option Addr}{l c:Nat} (hr:Rd 1 H a l (aj ar)) (ho:∀ p,a=some p->p.block∉D) (hal:l<=1000)
  (h:∀ H' D' s' ws',SD H' db D' s' t v ws' (N+1)->s'.h=s.h->Up D H D' H'->Q (.tuple #[.int .i64 res.1,.int .i64 res.2]) H') :
  ac PP qn #[.pointer (some ⟨db,0,none⟩),.int .i64 k,.string x,.int .i64 r,.slice a l c] Q H:=by
 obtain ⟨w,e⟩:=res
 by_cases he:e=0
 ·subst he
  exact xJ hD hN hp hD.all (Nat.le_refl _) hr ho hal h
 ·exact sj hD hN he hp hr ho hal fun H' D' hD' u=>h H' D' s ws ⟨hD'.dk,hD'.all,by have:=hD'.st;omega,by have:=hD'.wl;omega⟩ rfl u
theorem qX (n:Int):(Int.tmod n 2 == 0)=decide (n % 2=0):=by
 have h:=xA n
 rw [aS]
 rw [aT] at h
 have h2:=decide_eq_decide.1 h
 exact decide_eq_decide.2 (by omega)
end
attribute [local irreducible] sl rZ sE rv rg ti Cc tD fO de
structure Beside (H0 H:ae) (db:Nat) (D:aA) (s:SP) (t:TB) (v:KV) (ws:List Int) (N:Nat) (X:aA):Prop where
 sd:SD H db D s t v ws N
 fr:Fr [] H0 H
 lo:∀ x∈D,H0.size<=x
 off:∀ x∈X,x∉D∧x<H.size∧H0.size<=x
 gk:ap<H0.size
 gp:gP<H0.size
theorem DK.fr {H H':ae}{db:Nat}{D X:aA}{s:SP}{t:TB}{ws:List Int} (h:DK H db D s t ws) (hf:Fr X H H') (hd:∀ x∈D,x∉X) (hg:ap∉X) (hp:gP∉X):DK H' db D s t ws:=by
 obtain ⟨b,F,a,l,c,G,rfl,hB,hO,hK,h1,h2,h3,h4,h5,h6⟩:=h
 exact ⟨b,F,a,l,c,G,rfl,hB.fr hf (hd _ (by simp)),hO.fr hf (fun x hx=>hd x (by simp [hx])),hK.fr hf (fun x hx=>hd x (by simp [hx])) hg,h1,h2,h3,h4,h5,h6.fr hf hp⟩
theorem sZ {H0 H H':ae}{X:aA} (f:Fr [] H0 H) (g:Fr X H H') (hx:∀ x∈X,H0.size<=x):Fr [] H0 H' :=
 ⟨Nat.le_trans f.1 g.1,fun y hy _=>by rw [g.2 y (Nat.lt_of_lt_of_le hy f.1) (fun hm=>by have:=hx y hm;omega),f.2 y hy (by simp)]⟩
section
variable {H0 H H':ae}{db:Nat}{D D' X:aA}{s s':SP}{t t':TB}{v:KV}{ws ws':List Int}{N N':Nat}
theorem Beside.step (h:Beside H0 H db D s t v ws N X) (hD:SD H' db D' s' t' v ws' N') (u:Up D H D' H'):Beside H0 H' db D' s' t' v ws' N' X:=by
 refine ⟨hD,sZ h.fr u.1 h.lo,fun x hx=>?_,fun x hx=>?_,h.gk,h.gp⟩
 ·rcases u.2 x hx with h1 | h1
  ·exact h.lo x h1
  ·have:=h.fr.1;omega
 ·obtain ⟨h1,h2,h3⟩:=h.off x hx
  refine ⟨fun hm=>?_,Nat.lt_of_lt_of_le h2 u.1.1,h3⟩
  rcases u.2 x hm with h4 | h4
  ·exact h1 h4
  ·omega
theorem Beside.grow {X':aA} (h:Beside H0 H db D s t v ws N X) (u:Up X H X' H') (hl:∀ x∈X',x<H'.size):Beside H0 H' db D s t v ws N X':=by
 have hx:∀ x∈X,H0.size<=x:=fun x hx=>(h.off x hx).2.2
 refine ⟨⟨h.sd.dk.fr u.1 (fun x hx hm=>(h.off x hm).1 hx) (fun hm=>by have:=hx _ hm;have:=h.gk;omega) (fun hm=>by have:=hx _ hm;have:=h.gp;omega),h.sd.all,h.sd.st,h.sd.wl⟩,sZ h.fr u.1 hx,h.lo,fun x hxm=>?_,h.gk,h.gp⟩
 rcases u.2 x hxm with h1 | h1
 ·obtain ⟨h2,h3,h4⟩:=h.off x h1
  exact ⟨h2,hl x hxm,h4⟩
 ·exact ⟨fun hm=>by have:=h.sd.dk.lt x hm;omega,hl x hxm,Nat.le_trans h.fr.1 h1⟩
theorem Beside.nil (h:Beside H0 H db D s t v ws N X) (f:Fr [] H H'):Beside H0 H' db D s t v ws N X :=
 ⟨h.sd.nil f,h.fr.trans f,h.lo,fun x hx=>by obtain ⟨h1,h2,h3⟩:=h.off x hx;exact ⟨h1,Nat.lt_of_lt_of_le h2 f.1,h3⟩,h.gk,h.gp⟩
theorem dR {g:Nat}{f:Int->Int->Int × Int}{n m:Int}{x:ByteArray}{xs:List Value}{a:Option Addr}{l c:Nat}{R:Option Addr->Nat->Nat->ae->Prop} (ho:sJ g f) (hn:fg n) (hm:fg m) (hA:Beside H0 H db D s t v ws N X) (hO:bF 3 H a l c xs X) (hl:l<1000)
  (h:∀ a' c' X' H',Beside H0 H' db D s t v ws N X'->bF 3 H' a' (l+1) c' (xs++[.string x,.int .i64 (f n m).1,.int .i64 (f n m).2]) X'->R a' (l+1) c' H') :
  ac PP g #[.int .i64 n,.int .i64 m] (fun v H4=>∃ n10:Int,∃ n11:Int,v=.tuple #[.int .i64 n10,.int .i64 n11]∧aG PP (Builtin.append_ #[36,36] 36 #[.slice a l c,.slice (some (⟨H4.size,0,none⟩:Addr)) 1 1]) (fun v H5=>∃ a':Option Addr,∃ l':Nat,∃ c':Nat,v=.slice a' l' c'∧R a' l' c' H5) (H4.push (.cells #[.string x,.int .i64 n10,.int .i64 n11] 41))) H:=by
 have hsR:aF PP 36=some (3,32,some (.agg #[.string ⟨#[]⟩,.int .i64 0,.int .i64 0])):=by kernel_rfl
 refine ho n m hn hm ⟨_,_,rfl,?_⟩
 refine bt hsR (by rfl) (by kernel_rfl) hO rfl (by simp [dA]) (by omega) (by decide) (by decide) fun a3 c3 G3 H3 hO3 u3 lt3=>⟨_,_,_,rfl,?_⟩
 exact h a3 c3 G3 H3 (hA.grow u3 lt3) hO3
end
end Go.Proofs.YtgcoppcogllpbaaGreatDoor
namespace Go.Proofs.YtgcoppcogllpbaaGreatDoor
open Kw
attribute [local irreducible] sl rZ sE rv rg ti Cc tD fO de bu dH fE
section
variable {H0 H:ae}{db:Nat}{D X:aA}{s:SP}{t:TB}{v:KV}{ws:List Int}{N:Nat}{Q:QT}
theorem fC {k r ab:Int}{a:Option Addr}{l c:Nat}{x:ByteArray}{ar:List Int}{z zw:Bool} (hA:Beside H0 H db D s t v ws N X) (hN:N+1<60000) (hr:Rd 1 H a l (aj ar)) (ho:∀ p,a=some p->p.block∈X) (hl:l<=1000) (hp:PrimS s t k x r ar (tw z,0) s t) (hz:z=zw)
  (h:∀ H' D' s' ws',Beside H0 H' db D' s' t v ws' (N+1) X->s'.h=s.h->Rd 1 H' a l (aj ar)->Q (.bool true) H') :
  ac PP tU #[.pointer (some ⟨db,0,none⟩),.int .i64 k,.string x,.int .i64 r,.slice a l c,.int .i64 (tw zw)] Q H:=by
 subst hz
 have hoff:∀ p,a=some p->p.block∉D:=fun p hp=>(hA.off _ (ho p hp)).1
 refine mZ hA.sd hN hp hr hoff hl fun H' D' s' ws' hD' e u=>?_
 rw [decide_eq_true rfl]
 exact h H' D' s' ws' (hA.step hD' u) e (hr.fr' u.1 hoff)
end
theorem kP {H:ae}{x y:Int} (hk:bR H) (ht:dG H):ac PP Ed #[.int .i64 x,.int .i64 y] (fun v H'=>v=.bool true∧Fr [] H H') H:=by
 apply A6
 unfold k4 A0 iV wW pV sV lV cS
 refine wz (k:=277) (m:=2810) rfl rfl (by decide) (by decide) (by decide) hk ht fun H1 db D s t v ws hD hR ht1 ht2 hv f1 lo=>⟨_,rfl,?_⟩
 refine gi ⟨_,rfl,gi ⟨_,rfl,?_⟩⟩
 simp only [Option.isNone_some,cond_false]
 have ia:=cD x
 have ib:=cD y
 generalize de x=a at ia ⊢
 generalize de y=b at ib ⊢
 have hA1:Beside H H1 db D s t v ws 10 []:=⟨hD,f1,lo,by simp,hk.lt,ht.lt⟩
 have hO1:=bF.nil 3 H1
 clear hD f1 lo
 refine dR sg ia ib hA1 hO1 (by decide) fun a1 c1 X1 H2 hA2 hO2=>?_
 clear hA1 hO1
 refine dR rW ia ib hA2 hO2 (by decide) fun a2 c2 X2 H3 hA3 hO3=>?_
 clear hA2 hO2
 refine dR sA ia ib hA3 hO3 (by decide) fun a3 c3 X3 H4 hA4 hO4=>?_
 clear hA3 hO3
 refine dR tE ia ib hA4 hO4 (by decide) fun a4 c4 X4 H5 hA5 hO5=>?_
 clear hA4 hO4
 refine dR tZ ia ib hA5 hO5 (by decide) fun a5 c5 X5 H6 hA6 hO6=>?_
 clear hA5 hO5
 refine dR sn ia ib hA6 hO6 (by decide) fun a6 c6 X6 H7 hA7 hO7=>?_
 clear hA6 hO6
 refine dR xw ia ib hA7 hO7 (by decide) fun a7 c7 X7 H8 hA8 hO8=>?_
 clear hA7 hO7
 refine dR sG ia ib hA8 hO8 (by decide) fun a8 c8 X8 H9 hA9 hO9=>?_
 clear hA8 hO8
 refine dR nG ia ib hA9 hO9 (by decide) fun a9 c9 X9 H10 hA10 hO10=>?_
 clear hA9 hO9
 have hO:bF 3 H10 a9 9 c9 (ju (kY a b)) X9:=hO10
 clear hO10
 refine fw ia ⟨_,rfl,fw ib ⟨_,rfl,?_⟩⟩
 have fp:=Fr.push [] H10 (.cells #[.int .i64 (2*b+1)] 24)
 have hBA:=ba.new H10 #[.int .i64 (2*b+1)] 24
 have hr0:=ig H10 (2*b+1) 24
 have hA11:=hA10.nil fp
 have hO11:=hO.fr fp (by simp)
 have hlt:=hO.lt
 have hA12:Beside H (H10.push (.cells #[.int .i64 (2*b+1)] 24)) db D s t v ws 10 (H10.size :: X9):=⟨hA11.sd,hA11.fr,hA11.lo,fun x hx=>by
  rcases List.mem_cons.1 hx with rfl | hx
  ·exact ⟨fun hm=>by have:=hA10.sd.dk.lt _ hm;omega,by simp,hA10.fr.1⟩
  ·exact hA11.off x hx,hA11.gk,hA11.gp⟩
 clear hA10 hA11 hO
 generalize H10.size=ab at *
 generalize (H10.push (.cells #[.int .i64 (2*b+1)] 24))=H11 at *
 have dd:∀ p,(some ⟨ab,0,none⟩:Option Addr)=some p->p.block∈ab :: X9:=fun p hp=>by cases hp;simp
 refine ⟨fun w H'=>∃(i:Nat) (D':aA) (s':SP) (ws':List Int),w=[.int .i64 i]∧i<=9∧Beside H H' db D' s' t v ws' (10+i) (ab :: X9)∧s'.h=s.h∧bF 3 H' a9 9 c9 (ju (kY a b)) X9∧Rd 1 H' (some ⟨ab,0,none⟩) 1 (aj [2*b+1]),fun w _=>match w with
  | [.int _ i]=>((9:Int)-i).toNat
  | _=>0,⟨0,_,_,_,rfl,Nat.zero_le _,hA12,rfl,hO11,hr0⟩,?_⟩
 clear hA12 hO11 hr0 hBA fp hlt
 rintro w H12 ⟨i,D1,s1,ws1,rfl,hi,hA,e1,hO,hr⟩ _
 refine ⟨_,rfl,iK (fun hlt=>?_) fun hge=>?_⟩
 ·have hil:i<9:=by omega
  have w1:IntKind.wrap .i64 ((i:Int)+1)=((i+1:Nat):Int):=by rw [ag (by omega) (by omega)];omega
  obtain ⟨x,y,e,g0,g1,g2,g3⟩:=wq a b i hil
  obtain ⟨hp,hy⟩:=um hA.sd.all ia ib i hil x y e g0
  have hrd:=hO.rd
  obtain ⟨q,hq⟩:∃ q,a9=some ⟨q,0,none⟩:=by
   rcases hO.2.2 with ⟨ha,_⟩ | ⟨q,_,ha,_⟩
   ·have:=hrd.2.1 ha;omega
   ·exact ⟨q,ha⟩
  subst hq
  have cel:∀ {Hz:ae},bF 3 Hz (some ⟨q,0,none⟩) 9 c9 (ju (kY a b)) X9->∀ j,j<3->aa Hz ((((⟨q,0,none⟩:Addr).add (i*3))).add j)=(ju (kY a b))[i*3+j]?:=fun ho j hj=>by
   rw [ah,ah,Nat.zero_add]
   have:=ho.rd.2.2 _ rfl (i*3+j) (by omega)
   rw [ah,Nat.zero_add] at this
   exact this
  refine ⟨⟨by omega,hlt⟩,_,rfl,x,?_,?_⟩
  ·have:=cel hO 0 (by decide)
   rw [Int.toNat_natCast]
   rw [ah,ah,Nat.add_zero] at this
   rw [ah]
   exact this.trans g1
  refine yH hA.sd (by omega) hp hr (fun p hp=>(hA.off _ (dd p hp)).1) (by decide) fun H13 D2 s2 ws2 hD2 e2 u2=>⟨_,_,rfl,⟨by omega,hlt⟩,_,rfl,e,?_,iQ ⟨_,rfl,?_⟩⟩
  ·have hO2:=hO.fr u2.1 fun z hz=>(hA.off z (by simp [hz])).1
   rw [Int.toNat_natCast]
   exact (cel hO2 2 (by decide)).trans g3
  have hA2:=hA.step hD2 u2
  have hO2:=hO.fr u2.1 fun z hz=>(hA.off z (by simp [hz])).1
  have hr2:=hr.fr' u2.1 fun p hp=>(hA.off _ (dd p hp)).1
  have fin:∃(i':Nat) (D':aA) (s':SP) (ws':List Int),([Value.int .i64 ((i+1:Nat):Int)]:List Value)=[.int .i64 i']∧i'<=9∧Beside H H13 db D' s' t v ws' (10+i') (ab :: X9)∧s'.h=s.h∧bF 3 H13 (some ⟨q,0,none⟩) 9 c9 (ju (kY a b)) X9∧Rd 1 H13 (some ⟨ab,0,none⟩) 1 (aj [2*b+1]) :=
   ⟨i+1,D2,s2,ws2,rfl,by omega,hA2,e2.trans e1,hO2,hr2⟩
  rw [w1]
  by_cases he:e=0
  ·subst he
   have hyi:=hy rfl
   have er:wH (y,0)=(2*y+1,0):=by
    unfold wH
    rw [if_neg (by simp),lS ⟨hyi.1,hyi.2⟩]
   rw [er]
   simp only [show ((0:Int) != 0)=false from rfl,show ((0:Int) == 0)=true from rfl,cond_false,cond_true]
   refine ⟨⟨by omega,hlt⟩,_,rfl,y,?_,fw hyi ⟨_,rfl,?_⟩⟩
   ·rw [Int.toNat_natCast]
    exact (cel hO2 1 (by decide)).trans g2
   rw [show ((2*y+1:Int) != 2*y+1)=false by simp,cond_false]
   exact ⟨fin,by simp;omega⟩
  ·have er:wH (y,e)=(0,e):=if_pos he
   rw [er]
   simp only [show ((0:Int) != 0)=false from rfl,bne_self_eq_false,cond_false,show (e == 0)=false by simp [he],show (e != 0)=true by simp [he],cond_true]
   exact ⟨fin,by simp;omega⟩
 have hi9:i=9:=by omega
 subst hi9
 have hR1:RoomyK s1.h 277 2810:=by rw [e1];exact hR
 clear hR e1 hge hi hO
 refine cU ⟨_,rfl,fC (ab:=0) hA (by decide) hr dd (by decide) (io hA.sd.all (by rfl) Bo ia ib) rfl fun H2 D2 s2 ws2 hA2 e2 hr2=>⟨_,rfl,?_⟩⟩
 rw [Bool.not_true,cond_false]
 clear hA hr
 refine cU ⟨_,rfl,fC (ab:=0) hA2 (by decide) hr2 dd (by decide) (io hA2.sd.all (by rfl) A9 ia ib) rfl fun H3 D3 s3 ws3 hA3 e3 hr3=>⟨_,rfl,?_⟩⟩
 rw [Bool.not_true,cond_false]
 clear hA2 hr2
 refine cU ⟨_,rfl,fC (ab:=0) hA3 (by decide) hr3 dd (by decide) (io hA3.sd.all (by rfl) BI ia ib) rfl fun H4 D4 s4 ws4 hA4 e4 hr4=>⟨_,rfl,?_⟩⟩
 rw [Bool.not_true,cond_false]
 clear hA3 hr3
 refine cU ⟨_,rfl,fC (ab:=0) hA4 (by decide) hr4 dd (by decide) (io hA4.sd.all (by rfl) Bu ia ib) rfl fun H5 D5 s5 ws5 hA5 e5 hr5=>⟨_,rfl,?_⟩⟩
 rw [Bool.not_true,cond_false]
 clear hA4 hr4
 refine cU ⟨_,rfl,fC (ab:=0) hA5 (by decide) hr5 dd (by decide) (ru hA5.sd.all ia ib) (aS _ _).symm fun H6 D6 s6 ws6 hA6 e6 hr6=>⟨_,rfl,?_⟩⟩
 rw [Bool.not_true,cond_false]
 clear hA5 hr5
 refine cU ⟨_,rfl,fC (ab:=0) hA6 (by decide) hr6 dd (by decide) (pe hA6.sd.all ia ib) (aT _ _).symm fun H7 D7 s7 ws7 hA7 e7 hr7=>⟨_,rfl,?_⟩⟩
 rw [Bool.not_true,cond_false]
 clear hA6 hr6 hr7
 refine cU ⟨_,rfl,fC (ab:=0) hA7 (by decide) (jO H7) (fun p hp=>by cases hp) (by decide) (rI hA7.sd.all ia) (qX a).symm fun H8 D8 s8 ws8 hA8 e8 _=>⟨_,rfl,?_⟩⟩
 rw [Bool.not_true,cond_false]
 clear hA7
 refine cU ⟨_,rfl,fC (ab:=0) hA8 (by decide) (jO H8) (fun p hp=>by cases hp) (by decide) (tG hA8.sd.all ia) (xA a).symm fun H9 D9 s9 ws9 hA9 e9 _=>⟨_,rfl,?_⟩⟩
 rw [Bool.not_true,cond_false]
 clear hA8
 have hR9:RoomyK s9.h 277 2810:=by rw [e9,e8,e7,e6,e5,e4,e3,e2];exact hR1
 have ht9:dG H9:=by
  obtain ⟨_,_,_,_,_,_,_,_,_,_,_,_,_,_,_,h6⟩:=hA9.sd.dk
  exact h6
 refine pQ ia ht9 fun H10' f10=>⟨_,_,rfl,?_⟩
 have hA10:=hA9.nil f10
 clear hA9
 have hsz:=jV ia
 have hbl:=gO (dK a)
 have hlen:lenOf (bm (dK a)).length 1<=10∧0<=lenOf (bm (dK a)).length 1:=by rw [hbl];unfold lenOf;rw [if_pos rfl];omega
 obtain ⟨k,s',em,hall,hst,hop,hstr,hsame,hno,k1,k2,hR'⟩:=rK (n:=276) (m:=2810-lenOf (bm (dK a)).length 1) hA10.sd.all (nJ (dK a)) (by omega) (by rw [show (2810-lenOf (bm (dK a)).length 1+lenOf (bm (dK a)).length 1)=2810 by omega];exact hR9) (by omega)
 have hpr:=oX hA10.sd.all ia
 rw [em] at hpr
 refine xJ hA10.sd (by decide) hpr hall (by rw [hst];exact Nat.le_refl _) (jO H10') (fun p hp=>by cases hp) (by decide) fun H11' D11 s11 ws11 hD11 e11 u11=>⟨_,_,rfl,?_⟩
 simp only [show ((0:Int) == 0)=true from rfl,cond_true]
 have hA11:=hA10.step hD11 u11
 have hstr11:kT s11.h k (bm (dK a)):=by rw [e11];exact hstr
 refine uw hA11.sd hstr11 (by omega) (by omega) fun H12' D12 s12 ws12 hD12 e12 u12=>⟨_,rfl,rfl,(hA11.step hD12 u12).fr⟩
end Go.Proofs.YtgcoppcogllpbaaGreatDoor
namespace Kw
open Go
theorem ou {W W':World}{may:MemPlace->Prop} (hf:Fr [] W.heap W'.heap) (ho:W'.os=W.os) (hout:W'.output=W.output):W.keptBut W' may:=by
 refine ⟨ho,hout,fun i hi=>?_⟩
 rw [hf.2 i hi (by simp)]
 cases h:W.heap[i]? with
 | none=>trivial
 | some o=>cases o <;> first | exact ⟨rfl,rfl,rfl,fun _ _=>rfl⟩ | exact .inr ⟨rfl,rfl⟩ | rfl
theorem post_law {H:Type}{enc:TypeId × Value->H}{P:Program}{f:Func}{s:ChangeSpec}{apart fresh handsOn:Bool}{W W':World}{args:Array Value}{v:Value}{ds gs:List (DataW H)}{before pa pv:List MemPlace}
  (hW:DataW.Whole enc P f.params.toList s.vars apart W args.toList ds gs before)
  (hres:∀ (b:Nat) (sp:Nat->Bool) (hd:Bool),DataW.TrodAll enc P W' b sp hd f.resultTypes.toList (v.resultList f.resultTypes.size) (s.fn H (ds++gs)).results [])
  (hargs:∀ sp:Nat->Bool,(∀ p∈before,sp p.block=true)->DataW.TrodAll enc P W' 0 sp true f.params.toList args.toList (s.fn H (ds++gs)).args pa)
  (hvars:∀ sp:Nat->Bool,(∀ p∈before,sp p.block=true)->DataW.TrodVars enc P W' sp s.vars (s.fn H (ds++gs)).vars pv)
  (hf:Fr [] W.heap W'.heap) (ho:W'.os=W.os) (hout:W'.output=W.output):s.post enc P f apart fresh handsOn false W args v W' :=
 ⟨ds,gs,before,[],pa,pv,hW,hres _ _ _,hargs _ (fun p hp=>by simpa using hW.lt p hp),hvars _ (fun p hp=>by simpa using hW.lt p hp),ou hf ho hout,fun h=>by cases h⟩
end Kw
namespace Go.Proofs.YtgcoppcogllpbaaGreatDoor
open Kw
theorem DU:ownKnob Tryz.prog.godebug=none:=by kernel_rfl
theorem sT : Tryz.prog.globalNamed "kiln/word.kinds" = some ap := by kernel_rfl
theorem BG : Tryz.prog.globalNamed "internal/strconv.uint64pow10" = some gP := by kernel_rfl
theorem vU:(Tryz.prog.globals[ap]?).map (·.type)=some 94:=by kernel_rfl
theorem B7:(Tryz.prog.globals[gP]?).map (·.type)=some 308:=by kernel_rfl
theorem zU:Tryz.prog.underlying 94=some (.array 4 3):=by kernel_rfl
theorem Ej:Tryz.prog.underlying 308=some (.array 20 279):=by kernel_rfl
theorem Ei:Tryz.prog.underlying 3=some (.int .i64):=by kernel_rfl
theorem DO:Tryz.prog.underlying 279=some (.int .u64):=by kernel_rfl
theorem Ek:Tryz.prog.cellsOf 3=1:=by kernel_rfl
theorem DT:Tryz.prog.cellsOf 279=1:=by kernel_rfl
theorem DQ:Tryz.prog.cellsOf 308=20:=by kernel_rfl
theorem sw {W:World}{n:String}{g:Nat}{cs:Array Value}{i:Nat}{v:Value} (hg:PP.globalNamed n=some g) (hv:W.var? PP n=some cs) (h:cs[i]?=some v):aa W.heap ⟨g,i,none⟩=some v:=by
 have:=World.var?_cell hg hv i
 rw [h] at this
 exact this
open Go.Lib in
theorem kR {L : List (String × DataW Unit)} (hm : ("kiln/word.kinds", Rows.laid_kiln_word_kinds) ∈ L) {W : World} (h : laidMet PP L W) : bR W.heap := by
 obtain ⟨g, t, cs, fuel, p, hg, ht, hv, hd⟩ := laidMet.reads h (n := "kiln/word.kinds") (d := Rows.laid_kiln_word_kinds) hm
 obtain rfl:=Option.some.inj (sT.symm.trans hg)
 obtain rfl:=Option.some.inj (vU.symm.trans ht)
 have one:∀ i (k:Int),i<4->([3,1,2,1]:List Int)[i]?=some k->aa W.heap ⟨ap,i,none⟩=some (.int .i64 k):=by
  intro i k hi hk
  obtain ⟨fuel',d,q,he,hd'⟩:=array_elem zU hd i hi
  rw [Ek,Nat.mul_one] at hd'
  obtain ⟨n,hcs,hx,_⟩:=DataW.trod_int Ei hd'
  obtain ⟨hdx,_⟩:=Prod.mk.inj hx
  have hc:cs.toList[i]?=some (.int .i64 n):=by
   have:=congrArg (·[0]?) hcs
   simpa [List.getElem?_take,List.getElem?_drop] using this
  have hs:n=k:=by
   have e:some d=some (.lit (.int .i64 k):DataW Unit):=by
    rw [←he]
    rcases i with _ | _ | _ | _ | i
    all_goals first | omega | (cases hk;rfl)
   rw [hdx] at e
   simpa using e
  have hf:=sw sT hv (i:=i) (v:=.int .i64 n) (by rw [←hc];simp)
  rw [hs] at hf
  exact hf
 exact ⟨one 0 3 (by decide) rfl,one 1 1 (by decide) rfl,one 2 2 (by decide) rfl,one 3 1 (by decide) rfl⟩
open Go.Lib in
theorem nE {L : List (String × DataW Unit)} (hm : ("internal/strconv.uint64pow10", Rows.laid_internal_strconv_uint64pow10) ∈ L) {W : World} (h : laidMet PP L W) : dG W.heap := by
 obtain ⟨g, t, cs, fuel, p, hg, ht, hv, hd⟩ := laidMet.reads h (n := "internal/strconv.uint64pow10") (d := Rows.laid_internal_strconv_uint64pow10) hm
 obtain rfl:=Option.some.inj (BG.symm.trans hg)
 obtain rfl:=Option.some.inj (B7.symm.trans ht)
 have hd':DataW.trod _ PP W _ _ _ fuel 308 cs.toList=some (tabData .u64 Lib.pow10Tab,p):=hd
 have hc:=cells_of_tab Ej DO DT DQ hd'
 unfold World.var? at hv
 rw [BG] at hv
 simp only [Option.bind_some] at hv
 cases hb:W.heap[gP]? with
 | none=>rw [hb] at hv;simp at hv
 | some ob =>
  rw [hb] at hv
  cases ob with
  | cells a b c =>
   simp only [Option.some.injEq] at hv
   subst hv
   refine ⟨(b,c),?_⟩
   rw [hb,←hc]
  | _=>simp at hv
end Go.Proofs.YtgcoppcogllpbaaGreatDoor
