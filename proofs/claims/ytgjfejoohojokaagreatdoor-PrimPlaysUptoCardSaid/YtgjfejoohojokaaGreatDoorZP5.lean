/- Lemmas for RPP: functions of the program as predicate transformers, and their contracts. -/
import Derived.Test.YtgjfejoohojokaaGreatDoorZP4
import Derived.Lib.ItoaNum
import Derived.Laws.BytesString
set_option linter.all false
set_option maxRecDepth 100000
set_option maxHeartbeats 4000000
namespace Go.Proofs.YtgjfejoohojokaaGreatDoor
open Kw
section
variable {Q:QT}{H:au}
variable {a b c d A B D P:Option Addr}{i j k m n x y z I J K M N:Int}{l o r s u v L O R S U V:Nat}{t w T W:ByteArray}{e E g:Bool}{q:Option Nat}{p X Y Z:Value}{F G:Addr}
theorem Mo (h:fN 91 #[ac i,ac j] H fun a b c=>ah (b != 0) (Q (bJ #[am none,ac b]) c) (fN 92 #[ac 4096] c fun b _ c=>bX [ac 1] (aJ c #[am a,am b] 100) fun d e f g i=>ah (decide (i<=20)) (ak 93 #[ac i] g fun b c j=>aE a fun a=>aF j a fun k=>aC 40 #[ac b] j fun b j=>((aq j a=some (am k)∧True)∧True)∧ak 94 #[am k,ac b,ac c,ac 0] j fun _ a b=>True∧ah (a != 0) (Q (bJ #[am none,ac a]) b) (bm d e [ac (aI (i+1))] b f g)) (bX [ac 0] g fun d e f g i=>ax (am (some (aL c.size))) fun c=>ax (ac 18) fun j=>ah (aX i 14) (((0:Int)<=i∧i<(14:Int))∧cX g (aN 1 (Int.toNat i*1)) fun k=>ak 95 #[am b,aO k] g fun _ _ b=>aC 40 #[ac 4] b fun b k=>C7 (fun a=>ah (i == 0) (aC 40 #[ac 1] k fun b c=>a [ac b] c) (a [ac b] k)) fun b k=>aC 97 #[ac i] k fun k l=>aC 40 #[j] l fun l m=>aC 40 #[j] m fun m n=>aC 40 #[j] n fun j n=>aC 22 #[ac 0] n fun n o=>ax (ac (aI (i+1))) fun p=>aC 22 #[p] o fun o q=>ax (ac (aI (4+i))) fun r=>fe 96 #[c,r,av (some (aL q.size)) 7 7] (aJ q #[ac k,ac b,ac l,ac m,ac j,ac n,ac o] 26) fun b=>aE a fun a=>aF b a fun c=>aC 40 #[r] b fun b j=>((aq j a=some (am c)∧True)∧True)∧aC 98 #[am c,ac 20,ac i,ac b] j fun _ a=>True∧bm d e [p] a f g) (aC 40 #[ac 20] g fun b d=>aC 40 #[j] d fun d e=>aC 40 #[j] e fun e f=>aC 40 #[j] f fun f g=>aC 40 #[ac 1] g fun g i=>aC 40 #[ac 2] i fun i j=>aC 40 #[ac 3] j fun j k=>aC 40 #[ac 1] k fun k l=>fe 96 #[c,ac 19,av (some (aL l.size)) 8 8] (aJ l #[ac b,ac d,ac e,ac f,ac g,ac i,ac j,ac k] 26) fun b=>aC 99 #[am a,ac 19] b fun _ a=>Q (bJ #[c,ac 0]) a)))):ag PP 38 #[ac i,ac j] Q H :=
 okL Tryz.func38 rfl (fun | 7=>some [(11,3)] | 14=>some [(16,3)] | 1020=>some [(17,26)] | _=>none) h
theorem M9 (h:ax (am a) fun a=>ak 100 #[a,aO t,aO w,av b l o] H fun c d e=>ah (d != 0) (Q (aA 0 d) e) (du 101 #[a] e fun d e=>ak 102 #[a,aO t,ac c,av b l o] e fun b c e=>aC 103 #[a,am d,ac c] e fun a c=>ah (a != 0) (Q (aA 0 a) c) (Q (aA b 0) c))):ag PP 39 #[.pointer a,.string t,.string w,.slice b l o] Q H :=
 okF Tryz.func39 rfl h
theorem Nd (h:bX [ac 0] H fun c d e f g=>ah (aX g (l:Int)) (aE a fun a=>aF f a fun a=>aE a fun a=>aF f a fun a=>bf g l b fun b=>ay f (bc b g 1) fun b=>aC 98 #[am a,ac i,ac g,ac b] f fun _ a=>True∧bm c d [ac (aI (g+1))] a e f) (Q (bJ #[]) f)):ag PP 96 #[.pointer a,ac i,.slice b l o] Q H :=
 okL Tryz.func96 rfl (fun | 1=>some [(6,3)] | _=>none) h
theorem Df (h:bk 231 #[aO t] H fun c d=>ah (!c) (Q (aA 0 133) d) (ax (am a) fun a=>bk 232 #[a,aO t] d fun c d=>ah c (Q (aA 0 131) d) (ak 233 #[a,aO w] d fun c d e=>ah (d != 0) (Q (aA 0 130) e) (aC 234 #[a,ac c] e fun d e=>mS (fun a=>ah (bP d 1) (ah (decide (d<=14)) (Q (aA 0 132) e) (a [] e)) (a [] e)) fun d=>dM 235 #[a,ac c] d fun d e _ _ f=>bX [ac 0] f fun f g i j k=>ah (aX k (l:Int)) (bf k l b fun a=>cX j (bc a k 1) fun a=>bk 236 #[aO a] j fun a c=>ah (!a) (Q (aA 0 133) c) (bX [ac 0] c fun a c m n o=>ah (aX o k) (bf o l b fun d=>cX n (bc d o 1) fun d=>bf k l b fun b=>cX n (bc b k 1) fun b=>ah (bO d b) (Q (aA 0 134) n) (bm a c [ac (aI (o+1))] n m n)) (bX [ac 0] n fun a c m n o=>ah (aX o (e:Int)) (bf o e d fun d=>cX n (bc d o 1) fun d=>bf k l b fun b=>cX n (bc b k 1) fun b=>ah (bO d b) (Q (aA 0 135) n) (bm a c [ac (aI (o+1))] n m n)) (bm f g [ac (aI (k+1))] n i j)))) (ah (bP (aI ((e:Int)+(l:Int))) 32) (Q (aA 0 137) j) (cq 237 #[a] j fun _ a _ b=>ah (decide ((a:Int)≥256)) (Q (aA 0 138) b) (Q (aA c 0) b))))))):ag PP 100 #[.pointer a,.string t,.string w,.slice b l o] Q H :=
 okL Tryz.func100 rfl (fun | 1011=>some [] | 13=>some [(15,3)] | 18=>some [(16,3)] | 23=>some [(17,3)] | _=>none) h
theorem Fk (h:aE a fun b=>aF H (b.add 1) fun b=>aE a fun c=>aF H c fun d=>aE d fun e=>aF H e fun f=>aE a fun a=>aF H a fun g=>aE g fun i=>ax (i.add 2) fun i=>aK H i fun j k l=>aC 107 #[am b] H fun b m=>ax (some (av j k l)) fun j=>((aq m i=j∧True)∧(aq m a=some (am g)∧True)∧(aq m e=some (am f)∧True)∧(aq m c=some (am d)∧True)∧True)∧aC 61 #[am f] m fun c d=>((aq d i=j∧True)∧(aq d a=some (am g)∧True)∧True)∧True∧Q (am (some (aL d.size))) (aJ d #[ac b,ac c,ac (k:Int)] 232)):ag PP 101 #[.pointer a] Q H :=
 okF Tryz.func101 rfl h
theorem FJ (h:ax (am a) fun c=>dM 238 #[c,av (some (aL H.size)) 1 1] (aJ H #[aO t] 9) fun d e _ f g=>ah (f != 0) (Q (aA 0 f) g) (dM 238 #[c,av b l o] g fun b f g j k=>ah (j != 0) (Q (aA 0 j) k) (ak 239 #[c,ac 11,av b f g] k fun b f g=>ah (f != 0) (Q (aA 0 f) g) (aC 241 #[c,ac 19,ac 0] g fun f g=>aC 108 #[ac f] g fun f g=>cq 240 #[c,ac f] g fun f g j k=>bf 0 e d fun d=>ax (bc d 0 1) fun d=>ay k d fun e=>aC 40 #[ac i] k fun i k=>ax (some (ac e)) fun l=>((aq k d=l∧True)∧True)∧aC 40 #[ac 18] k fun k m=>((aq m d=l∧True)∧True)∧aC 40 #[ac 18] m fun m n=>((aq n d=l∧True)∧True)∧aC 22 #[ac 0] n fun n o=>((aq o d=l∧True)∧True)∧aC 22 #[ac (aI ((g:Int)+1))] o fun o p=>((aq p d=l∧True)∧True)∧True∧ak 239 #[c,ac 12,av (some (aL p.size)) 7 7] (aJ p #[ac e,ac i,ac b,ac k,ac m,ac n,ac o] 26) fun b d e=>True∧ah (d != 0) (Q (aA 0 d) e) (bM (Builtin.append_ #[30,30] 30 #[av f g j,av (some (aL e.size)) 1 1]) (aJ e #[ac b] 26) fun d e f g=>ak 239 #[c,ac 11,av d e f] g fun c d e=>ah (d != 0) (Q (aA 0 d) e) (aE a fun a=>aF e a fun a=>aC 242 #[am a,ac 0,ac c] e fun _ a=>aC 108 #[ac b] a fun a b=>Q (aA a 0) b)))))):ag PP 102 #[.pointer a,.string t,ac i,.slice b l o] Q H :=
 okF Tryz.func102 rfl h
theorem IZ (h:aE a fun c=>aF H c fun c=>aE a fun d=>aF H d fun d=>aE d fun d=>aK H (d.add 2) fun _ d _=>aE b fun e=>ay H (e.add 2) fun e=>aC 47 #[am c,ac (aI ((d:Int)-e))] H fun _ c=>True∧ah (i == 0) (Q (ac 0) c) (aE a fun d=>aF c (d.add 1) fun d=>aE b fun e=>ay c e fun e=>aC 243 #[am d,ac e] c fun _ c=>True∧ah (i != 24) (aE a fun a=>aF c a fun a=>aE a fun a=>aF c a fun a=>aE b fun b=>ay c (b.add 1) fun b=>aC 46 #[am a,ac b] c fun _ a=>True∧Q (ac i) a) (Q (ac i) c))):ag PP 103 #[.pointer a,.pointer b,ac i] Q H :=
 okF Tryz.func103 rfl h
theorem DX (h:mS (fun a=>bk 244 #[ac i] H fun b c=>ah b (ah (Int.tmod i 2 != 0) (Q (aA 8 0) c) (a [] c)) (a [] c)) fun b=>bk 244 #[ac i] b fun b c=>ah (!b) (Q (aA 0 10) c) (ah (Int.tmod i 4 == 2) (Q (aA 9 0) c) (aE a fun a=>aF c a fun b=>aE b fun d=>aF c d fun e=>aC 108 #[ac i] c fun c f=>((aq f d=some (am e)∧True)∧(aq f a=some (am b)∧True)∧True)∧ak 52 #[am e,ac c] f fun a b c=>True∧ah (b != 0) (Q (aA 0 b) c) (aC 108 #[ac a] c fun a b=>Q (aA a 0) b)))):ag PP 106 #[.pointer a,ac i] Q H :=
 okL Tryz.func106 rfl (fun | 1003=>some [] | _=>none) h
theorem GA (h:ak 233 #[am a,aO t] H fun _ b c=>cq 313 #[am a] c fun a c _ d=>bX [ac 0] d fun d e f g i=>ah (aX i (c:Int)) (bf i c a fun a=>cX g (bc a i 1) fun a=>ah (bO a t) (Q (aP true) g) (bm d e [ac (aI (i+1))] g f g)) (Q (aP (b == 0)) g)):ag PP 232 #[.pointer a,.string t] Q H :=
 okL Tryz.func232 rfl (fun | 4=>some [(8,3)] | _=>none) h
theorem GO (h:cq 237 #[am a] H fun b c _ d=>bX [ac 0] d fun d e f g i=>ah (aX i (c:Int)) (bf i c b fun j=>ay g (bc j i 1) fun j=>aC 241 #[am a,ac j,ac 0] g fun j k=>eI 314 #[am a,ac j] k fun a j=>ah (bO a t) (bf i c b fun a=>ay j (bc a i 1) fun a=>Q (aA a 0) j) (bm d e [ac (aI (i+1))] j f g)) (Q (aA 0 130) g)):ag PP 233 #[.pointer a,.string t] Q H :=
 okL Tryz.func233 rfl (fun | 3=>some [(7,3)] | _=>none) h
theorem KJ (h:cq 237 #[am a] H fun a b _ c=>bX [ac 0] c fun c d e f g=>ah (aX g (b:Int)) (bf g b a fun a=>ay f (bc a g 1) fun a=>ax (ac (aI (g+1))) fun b=>ah (a == i) (ah (bP i 0) (Q b f) (bm c d [b] f e f)) (bm c d [b] f e f)) (Q (ac 0) f)):ag PP 234 #[.pointer a,ac i] Q H :=
 okL Tryz.func234 rfl (fun | 3=>some [(6,3)] | _=>none) h
theorem EG (h:aC 234 #[am a,ac i] H fun b c=>ah (b == 0) (Q (bJ #[av none 0 0,ac 130]) c) (cq 316 #[am a] c fun a c d e=>cq 315 #[av a c d,ac (aI (b-1)),ac (-1),av none 0 0] e fun a b c d=>Q (bJ #[av a b c,ac 0]) d)):ag PP 235 #[.pointer a,ac i] Q H :=
 okF Tryz.func235 rfl h
theorem HG (h:aC 241 #[am a,ac 19,ac 0] H fun b c=>aC 108 #[ac b] c fun b c=>cq 240 #[am a,ac b] c fun a b _ c=>cL [av none 0 0,ac 0] c fun c d e f g i j k=>ah (aX k (b:Int)) (bf k b a fun a=>ay f (bc a k 1) fun a=>aC 108 #[ac a] f fun a b=>bM (Builtin.append_ #[25,25] 25 #[av g i j,av (some (aL b.size)) 1 1]) (aJ b #[ac a] 3) fun a b g i=>bm c d [av a b g,ac (aI (k+1))] i e f) (Q (av g i j) f)):ag PP 237 #[.pointer a] Q H :=
 okL Tryz.func237 rfl (fun | 4=>some [(4,25),(5,3)] | _=>none) h
theorem HW (h:cL [av none 0 0,ac 0] H fun c d e f g i j k=>ah (aX k (l:Int)) (aE a fun a=>aF f (a.add 1) fun a=>bf k l b fun b=>cX f (bc b k 1) fun b=>ak 95 #[am a,aO b] f fun a b l=>True∧ah (b != 0) (Q (bJ #[av none 0 0,ac b]) l) (aC 97 #[ac a] l fun a b=>bM (Builtin.append_ #[30,30] 30 #[av g i j,av (some (aL b.size)) 1 1]) (aJ b #[ac a] 26) fun a b g i=>bm c d [av a b g,ac (aI (k+1))] i e f)) (Q (bJ #[av g i j,ac 0]) f)):ag PP 238 #[.pointer a,.slice b l o] Q H :=
 okL Tryz.func238 rfl (fun | 3=>some [(6,30),(7,3)] | _=>none) h
theorem zy (h:mS (fun a=>ah (i == 11) (ah ((l:Int) == 0) (aC 40 #[ac 18] H fun a b=>Q (aA a 0) b) (a [] H)) (a [] H)) fun c=>aE a fun d=>aF c d fun e=>aC 40 #[ac i] c fun c f=>((aq f d=some (am e)∧True)∧True)∧ak 266 #[am e,ac c,ac (l:Int),ac 0] f fun c d e=>True∧ah (d != 0) (Q (aA 0 d) e) (aC 108 #[ac c] e fun d e=>fe 96 #[am a,ac d,av b l o] e fun b=>aE a fun a=>aF b a fun a=>aC 104 #[am a,av (some (aL b.size)) 1 1] (aJ b #[ac c] 26) fun a b=>Q (aA c a) b)):ag PP 239 #[.pointer a,ac i,.slice b l o] Q H :=
 okL Tryz.func239 rfl (fun | 1003=>some [] | _=>none) h
theorem E8 (h:aE a fun b=>aF H b fun b=>aE b fun b=>aF H b fun b=>bW 53 #[am b,ac i] H fun b _ _ c=>cL [av none 0 0,ac 0] c fun c d e f g j k l=>ah (aX l b) (aC 241 #[am a,ac i,ac l] f fun a b=>bM (Builtin.append_ #[30,30] 30 #[av g j k,av (some (aL b.size)) 1 1]) (aJ b #[ac a] 26) fun a b g i=>bm c d [av a b g,ac (aI (l+1))] i e f) (Q (av g j k) f)):ag PP 240 #[.pointer a,ac i] Q H :=
 okL Tryz.func240 rfl (fun | 4=>some [(8,30),(9,3)] | _=>none) h
theorem IJ (h:aE a fun a=>aF H a fun a=>aE a fun a=>aF H a fun a=>ak 56 #[am a,ac i,ac j] H fun a _ b=>Q (ac a) b):ag PP 241 #[.pointer a,ac i,ac j] Q H :=
 okF Tryz.func241 rfl h
theorem IR (h:aC 234 #[am a,ac i] H fun b c=>ah (b == 0) (Q (aA 0 130) c) (aC 318 #[am a,ac i] c fun a b=>Q (aA a 0) b)):ag PP 249 #[.pointer a,ac i] Q H :=
 okF Tryz.func249 rfl h
theorem DP (h:aC 234 #[am a,ac i] H fun a b=>ah (a == 0) (Q (aA 0 130) b) (Q (aA a 0) b)):ag PP 265 #[.pointer a,ac i] Q H :=
 okF Tryz.func265 rfl h
theorem Gj (h:aC 241 #[am a,ac 19,ac 1] H fun b c=>aC 108 #[ac b] c fun b c=>cq 240 #[am a,ac b] c fun b c _ d=>cL [av none 0 0,ac 0] d fun d e f g i j k l=>ah (aX (aI (l+1)) (c:Int)) (bf l c b fun b=>ay g (bc b l 1) fun b=>eI 314 #[am a,ac b] g fun a b=>bM (Builtin.append_ #[61,61] 61 #[av i j k,av (some (aL b.size)) 1 1]) (aJ b #[aO a] 9) fun a b c i=>bm d e [av a b c,ac (aI (l+2))] i f g) (Q (av i j k) g)):ag PP 313 #[.pointer a] Q H :=
 okL Tryz.func313 rfl (fun | 4=>some [(4,61),(5,3)] | _=>none) h
theorem GC (h:ah (Int.tmod i 4 != 2) (Q (aO (⟨#[]⟩:ByteArray)) H) (aE a fun a=>aF H (a.add 1) fun a=>eb 334 #[am a,ac (aI (Int.tdiv (aI (i-2)) 4))] H fun a _ b=>Q (aO a) b)):ag PP 314 #[.pointer a,ac i] Q H :=
 okF Tryz.func314 rfl h
theorem Ky (h:cq 237 #[am a] H fun b c _ d=>cL [av none 0 0,ac 0] d fun d e f g i j k l=>ah (aX l (c:Int)) (bf l c b fun b=>ay g (bc b l 1) fun b=>se 364 #[am a,ac b] g fun a b c m n o p=>bM (Builtin.append_ #[272,272] 272 #[av i j k,av (some (aL p.size)) 1 1]) (aJ p #[aO a,aO b,av c m n,ac o] 308) fun a b c i=>bm d e [av a b c,ac (aI (l+1))] i f g) (Q (av i j k) g)):ag PP 316 #[.pointer a] Q H :=
 okL Tryz.func316 rfl (fun | 4=>some [(4,272),(5,3)] | _=>none) h
theorem Eu (h:aC 241 #[am a,ac i,ac 1] H fun a b=>aC 108 #[ac a] b fun a b=>ah (a == 1) (Q (ac 0) b) (Q (ac a) b)):ag PP 318 #[.pointer a,ac i] Q H :=
 okF Tryz.func318 rfl h
theorem Ho (h:ax (aO (⟨#[]⟩:ByteArray)) fun b=>ax (am a) fun a=>ax (ac i) fun c=>aC 241 #[a,c,ac 0] (aJ H #[b,b,av none 0 0,ac 0] 308) fun d e=>eI 314 #[a,ac d] e fun d e=>aC 241 #[a,c,ac 2] e fun e f=>aC 108 #[ac e] f fun e f=>cq 388 #[a,ac e] f fun e f g i=>aC 241 #[a,c,ac 5] i fun i j=>aC 389 #[ac i] j fun i j=>ax (aL j.size) fun k=>bj (aJ j #[b,b,av none 0 0,ac 0] 308) k (aO d) fun d=>ax (aN j.size 1) fun l=>bj d l b fun b=>ax (aN j.size 2) fun d=>bj b d (av e f g) fun b=>ax (aN j.size 3) fun e=>bj b e (ac i) fun b=>aC 318 #[a,c] b fun b c=>ax (aN H.size 1) fun f=>ax (aN H.size 2) fun g=>ax (aN H.size 3) fun i=>ax (aL H.size) fun j=>ah (b != 0) (aC 241 #[a,ac b,ac 0] c fun b c=>eI 314 #[a,ac b] c fun a b=>bj b l (aO a) fun a=>cX a k fun b=>cX a l fun c=>aK a d fun d k l=>ay a e fun e=>bj a j (aO b) fun a=>bj a f (aO c) fun a=>bj a g (av d k l) fun a=>bj a i (ac e) fun a=>cX a j fun b=>cX a f fun c=>aK a g fun d e f=>ay a i fun g=>Q (aZ #[aO b,aO c,av d e f,ac g]) a) (cX c k fun a=>cX c l fun b=>aK c d fun d k l=>ay c e fun e=>bj c j (aO a) fun a=>bj a f (aO b) fun a=>bj a g (av d k l) fun a=>bj a i (ac e) fun a=>cX a j fun b=>cX a f fun c=>aK a g fun d e f=>ay a i fun g=>Q (aZ #[aO b,aO c,av d e f,ac g]) a)):ag PP 364 #[.pointer a,ac i] Q H :=
 okF Tryz.func364 rfl h
theorem HJ (h:cq 240 #[am a,ac i] H fun b c _ d=>cL [av none 0 0,ac 0] d fun d e f g i j k l=>ah (aX l (c:Int)) (bf l c b fun b=>ay g (bc b l 1) fun b=>eI 314 #[am a,ac b] g fun a b=>bM (Builtin.append_ #[61,61] 61 #[av i j k,av (some (aL b.size)) 1 1]) (aJ b #[aO a] 9) fun a b c i=>bm d e [av a b c,ac (aI (l+1))] i f g) (Q (av i j k) g)):ag PP 388 #[.pointer a,ac i] Q H :=
 okL Tryz.func388 rfl (fun | 4=>some [(6,61),(7,3)] | _=>none) h
end
def RK (H:au) (b:Nat) (F:aS) (s:SP) (t:TB):Prop:=∃ sb tb F1 F2,F=b :: (F1++F2)∧b∉F1∧b∉F2∧bU F1 F2 ∧
 bI H b #[QW sb,QW tb]∧nW H sb F1 s∧uf H tb F2 t
theorem RK.lt {H:au}{b:Nat}{F:aS}{s:SP}{t:TB} (h:RK H b F s t):∀ x∈F,x<H.size:=by
 obtain ⟨sb,tb,F1,F2,rfl,h1,h2,h3,hB,hS,hT⟩:=h;intro x hx;rcases a0E.1 hx with rfl | hx
 ·exact hB.lt
 ·rcases a0T.1 hx with hx | hx
  ·exact hS.lt x hx
  ·exact hT.lt x hx
theorem RK.bmem {H:au}{b:Nat}{F:aS}{s:SP}{t:TB} (h:RK H b F s t):b∈F:=by obtain ⟨_,_,_,_,rfl,_⟩:=h;simp
theorem RK.fr {H H':au}{b:Nat}{F G:aS}{s:SP}{t:TB} (h:RK H b F s t) (hf:Fr G H H') (hd:bU F G):RK H' b F s t:=by
 obtain ⟨sb,tb,F1,F2,rfl,h1,h2,h3,hB,hS,hT⟩:=h;exact ⟨sb,tb,F1,F2,rfl,h1,h2,h3,hB.fr hf (hd b (by simp)),hS.fr hf (hd.mono (fun x hx=>by simp [hx]) fun _ h=>h),hT.fr hf (hd.mono (fun x hx=>by simp [hx]) fun _ h=>h)⟩
theorem RK.nil {H H':au}{b:Nat}{F:aS}{s:SP}{t:TB} (h:RK H b F s t) (hf:Fr [] H H'):RK H' b F s t:=h.fr hf (bU.nil_right _)
theorem RK.wfs {H:au}{b:Nat}{F:aS}{s:SP}{t:TB} (h:RK H b F s t):WFS s:=by obtain ⟨_,_,_,_,_,_,_,_,_,hS,_⟩:=h;exact hS.wf
theorem RK.wft {H:au}{b:Nat}{F:aS}{s:SP}{t:TB} (h:RK H b F s t):WFT t:=by obtain ⟨_,_,_,_,_,_,_,_,_,_,hT⟩:=h;exact hT.wf
theorem RK.sp {H:au}{b:Nat}{F:aS}{s:SP}{t:TB} (h:RK H b F s t):∃ sb F1,aq H ⟨b,0,none⟩=some (QW sb)∧nW H sb F1 s∧(∀ x∈F1,x∈F)∧b∉F1 ∧
  ∀ H' F1' s',nW H' sb F1' s'->Up F1 H F1' H'->∃ F',RK H' b F' s' t∧Up F H F' H':=by
 have an:=h.lt;obtain ⟨sb,tb,F1,F2,rfl,h1,h2,h3,hB,hS,hT⟩:=h;refine ⟨sb,F1,hB.cell 0,hS,fun x hx=>by simp [hx],h1,fun H' F1' s' S2 hu=>⟨b :: (F1'++F2),⟨sb,tb,F1',F2,rfl,fun hx=>?_,h2,fun x hx At=>?_,hB.fr hu.1 h1,S2,hT.fr hu.1 h3.symm⟩,hu.1.mono fun x hx=>by simp [hx],fun x hx=>?_⟩⟩
 ·rcases hu.2 b hx with h4 | h4
  ·exact h1 h4
  ·have:=an b (by simp);omega
 ·rcases hu.2 x hx with h4 | h4
  ·exact h3 x h4 At
  ·have:=an x (by simp [At]);omega
 ·rcases a0E.1 hx with rfl | hx
  ·exact .inl (by simp)
  ·rcases a0T.1 hx with hx | hx
   ·exact (hu.2 x hx).imp (fun h4=>by simp [h4]) id
   ·exact .inl (by simp [hx])
theorem RK.tb {H:au}{b:Nat}{F:aS}{s:SP}{t:TB} (h:RK H b F s t):∃ tb F2,aq H ⟨b,1,none⟩=some (QW tb)∧uf H tb F2 t∧(∀ x∈F2,x∈F)∧b∉F2 ∧
  ∀ H' F2' t',uf H' tb F2' t'->Up F2 H F2' H'->∃ F',RK H' b F' s t'∧Up F H F' H':=by
 have an:=h.lt;obtain ⟨sb,tb,F1,F2,rfl,h1,h2,h3,hB,hS,hT⟩:=h;refine ⟨tb,F2,hB.cell 1,hT,fun x hx=>by simp [hx],h2,fun H' F2' t' VZ hu=>⟨b :: (F1++F2'),⟨sb,tb,F1,F2',rfl,h1,fun hx=>?_,fun x hx At=>?_,hB.fr hu.1 h2,hS.fr hu.1 h3,VZ⟩,hu.1.mono fun x hx=>by simp [hx],fun x hx=>?_⟩⟩
 ·rcases hu.2 b hx with h4 | h4
  ·exact h2 h4
  ·have:=an b (by simp);omega
 ·rcases hu.2 x At with h4 | h4
  ·exact h3 x hx h4
  ·have:=an x (by simp [hx]);omega
 ·rcases a0E.1 hx with rfl | hx
  ·exact .inl (by simp)
  ·rcases a0T.1 hx with hx | hx
   ·exact .inl (by simp [hx])
   ·exact (hu.2 x hx).imp (fun h4=>by simp [h4]) id
theorem RK.hp {H:au}{b:Nat}{F:aS}{s:SP}{t:TB} (h:RK H b F s t):∃ sb hb F1,aq H ⟨b,0,none⟩=some (QW sb)∧aq H ⟨sb,0,none⟩=some (QW hb)∧eJ H hb F1 s.h∧(∀ x∈F1,x∈F)∧b∉F1 ∧
  ∀ H' F1' r',eJ H' hb F1' r'->Up F1 H F1' H'->∃ F',RK H' b F' { s with h:=r' } t∧Up F H F' H':=by
 obtain ⟨sb,F1,hc,hS,ff,I2,s6⟩:=h.sp;obtain ⟨hb,F2,hR,c0,_,Jr,_,JK⟩:=hS.upd;refine ⟨sb,hb,F2,hc,c0,hR,fun x hx=>ff x (Jr x hx),fun hm=>I2 (Jr _ hm),fun H' F1' r' RC hu=>?_⟩;obtain ⟨F3,S2,SG⟩:=JK H' F1' r' RC hu;exact s6 H' F3 _ S2 SG
def tG (t:TB) (w:Int):ByteArray:=if Int.tmod w 4≠2 then ⟨#[]⟩ else if h:0<=(w-2) / 4∧(w-2) / 4<t.texts.length then t.texts[((w-2) / 4).toNat]'(by omega) else ⟨#[]⟩
theorem mA {t:TB} (hw:WFT t){n:Nat} (h:n<t.texts.length):tG t (fw n)=tx t n:=by
 unfold tG fw;have e:(4*(n:Int)+2-2) / 4=n:=by omega
 rw [a0a (by rw [a2v (by omega)];omega)];rw [dif_pos (by omega)];unfold tx;rw [a1f,a0Q h];simp only [a4y]
 congr 1
 omega
section
variable {H:au}{b:Nat}{F:aS}{s:SP}{t:TB}{Q:QT}
theorem oL (hK:RK H b F s t){o i:Int} (h:Q (ac (kslot s.h o i)) H):ag PP 241 #[QW b,ac o,ac i] Q H:=by
 obtain ⟨sb,hb,F1,hc,c0,hR,_⟩:=hK.hp;apply IJ;dsimp only [ak,aF,ac,aE,am];exact ⟨_,rfl,_,hc,_,rfl,_,c0,yn hR ⟨_,_,rfl,h⟩⟩
theorem xJ (hK:RK H b F s t){w:Int} (hw:Ej w) (h:Q (.string (tG t w)) H):ag PP 314 #[QW b,ac w] Q H:=by
 apply GC;dsimp only [ah,eb,aF,ac,aE,am,aO,aI];unfold tG at h;rw [bn,ae];refine aD (fun h1=>?_) fun h1=>?_
 ·rw [a0b h1] at h;exact h
 rw [a0a h1] at h;obtain ⟨tb,F2,hc,hT,_⟩:=hK.tb;have JY:=hw.1;have UE:=hw.2;have h2:Int.tmod w 4=2:=a0v h1;have JR:0<=w:=by
  rcases a4B w 0 with h3 | h3
  ·exfalso;have h4:Int.tmod w 4<=0:=by
    have e:w=-(-w):=by omega
    rw [e,a4t,a2v (by omega)];omega
   omega
  ·exact h3
 have hm:w % 4=2:=by rw [←h2,a2v JR]
 have e1:IntKind.wrap .i64 (w-2)=w-2:=ao (by omega) (by omega);have e2:Int.tdiv (w-2) 4=(w-2) / 4:=a2y (by omega);have e3:IntKind.wrap .i64 ((w-2) / 4)=(w-2) / 4:=ao (by omega) (by omega);rw [e1,e2,e3];refine ⟨_,rfl,_,hc,zg hT ?_⟩;unfold pd;split at h
 ·rename_i h5;rw [dif_pos h5];exact ⟨_,_,rfl,h⟩
 ·rename_i h5;rw [dif_neg h5];exact ⟨_,_,rfl,h⟩
theorem pX (hK:RK H b F s t){o:Int} (h:∀ a l c G H',bZ 1 H' a l c (az (kwords s.h o)) G->Fr [] H H'->(∀ x∈G,H.size<=x)->Q (.slice a l c) H'):ag PP 240 #[QW b,ac o] Q H:=by
 have i7:bd PP 30=some (1,8,some (ac 0)):=by kernel_rfl
 have Ox:=kX (r:=s.h) o;have Sb:=tF hK.wfs.h o;apply E8;dsimp only [aL,aC,ah,bW,aX,aF,ac,cL,av,bm,aE,am,aJ,bM,aI];obtain ⟨sb,hb,F1,hc,c0,hR,_⟩:=hK.hp;refine ⟨_,rfl,_,hc,_,rfl,_,c0,lX hR ⟨_,_,_,rfl,?_⟩⟩;show ∃(I11:List Value->au->Prop) (μ11:List Value->au->Nat),I11 [.slice none 0 0,ac 0] H∧∀ w12 H2,I11 w12 H2->∀ _g:Nat->Value,∃ a13:Option Addr,∃ l13:Nat,∃ c13:Nat,∃ n14:Int,w12=[.slice a13 l13 c13,ac n14]∧cond (decide (n14<ksize s.h o)) _ _;refine ⟨fun w H'=>∃(i:Nat) (a:Option Addr) (l' c:Nat) (G:aS),w=[.slice a l' c,ac i]∧(i:Int)<=ksize s.h o∧bZ 1 H' a l' c (az ((kwords s.h o).take i)) G∧Fr [] H H'∧(∀ x∈G,H.size<=x),fun w _=>match w with
  | [_,.int _ i]=>(ksize s.h o-i).toNat
  | _=>0,⟨0,none,0,0,[],rfl,Ox,by simpa [az] using bZ.nil 1 H,Fr.refl _ _,by simp⟩,?_⟩
 rintro w H1 ⟨i,a1,l1,c1,G,rfl,hi,ho,bw,hG⟩ _;have hlen:(kwords s.h o).length=(ksize s.h o).toNat:=by simp [kwords]
 have J9:l1=i:=by have:=ho.len;simp only [az,a1p,a1q] at this;omega
 refine ⟨_,_,_,_,rfl,?_⟩;rw [ae];refine aD (fun an=>?_) fun an=>?_
 ·have lj:(kwords s.h o).take (i+1)=(kwords s.h o).take i++[kslot s.h o i]:=by
   rw [a1i,a0Q (by omega)];simp [kwords]
  have e:IntKind.wrap .i64 ((i:Int)+1)=((i+1:Nat):Int):=by rw [ao (by omega) (by omega)];omega
  refine oL (hK.nil bw) ⟨_,rfl,?_⟩;refine bK i7 rfl (by kernel_rfl) ho rfl (by simp [dJ]) (by omega) (by decide) (by decide) fun a' c' G2 H3 g1 g2 g3=>⟨_,_,_,rfl,?_⟩;have o3:=Up.fresh bw g2 hG;rw [e];refine ⟨⟨i+1,a',l1+1,c',G2,rfl,by omega,?_,o3.1,o3.2⟩,by simp;omega⟩;rw [lj,bR];exact g1
 ·rw [a0Y (by omega)] at ho;exact h _ _ _ _ H1 ho bw hG
end
theorem ia {o:Int} (h:1<=o):gg (4*o)=o:=by
 unfold gg;rw [a0b (by omega)];omega
theorem eP {n:Int} (h0:-1000000000000<=n) (h1:n<=1000000000000):Ej n:=⟨by omega,by omega⟩
section
variable {H:au}{b:Nat}{F:aS}{s:SP}{t:TB}{v:KV}{Q:QT}
theorem wU (hK:RK H b F s t) (hv:KS s v){i:Int}{x:Int} (hx:kslot s.h 19 i=4*x) (h0:1<=x) (h1:x<=65536){Q:QT} (h:Q (ac x) H) :
  ag PP 241 #[QW b,ac 19,ac i] (fun v2 H1=>∃ n3:Int,v2=ac n3∧ag PP 108 #[ac n3] Q H1) H:=by
 refine oL hK ⟨_,rfl,?_⟩;rw [hx];refine cR (eP (by omega) (by omega)) ?_;rw [ia h0];exact h
theorem KS.s0 (h:KS s v):kslot s.h 19 0=4*v.clsA∧1<=v.clsA∧v.clsA<=65536:=by
 have hb:=h.view.all.bnd h.wf.h;exact ⟨h.view.root.kslot (i:=0) (by simp [KV.rootW]),hb.1,hb.2.1⟩
theorem KS.s1 (h:KS s v):kslot s.h 19 1=4*v.globA∧1<=v.globA∧v.globA<=65536:=by
 have hb:=h.view.globs.bnd h.wf.h;exact ⟨h.view.root.kslot (i:=1) (by simp [KV.rootW]),hb.1,hb.2.1⟩
def jt (v:KV):List Int:=v.cls.map (·.oop)
theorem yM (hK:RK H b F s t) (hv:KS s v) (h:∀ a l c G H',bZ 1 H' a l c (az (jt v)) G->Fr [] H H'->(∀ x∈G,H.size<=x)->Q (.slice a l c) H'):ag PP 237 #[QW b] Q H:=by
 have i7:bd PP 25=some (1,8,some (ac 0)):=by kernel_rfl
 have CO:=hv.shape.many1;obtain ⟨e0,b0,b1⟩:=KS.s0 hv;apply HG;dsimp only [aL,aC,cq,ah,aX,ay,bc,ac,bf,cL,av,bm,am,aJ,bM,aI];refine wU hK hv e0 b0 b1 ⟨_,rfl,pX hK fun aw lw cw Gw H0 Rt Tz XC=>⟨_,_,_,rfl,?_⟩⟩;rw [show kwords s.h v.clsA=v.clsW from hv.view.all.kwords] at Rt;have VE:lw=v.cls.length:=by have:=Rt.len;simpa [az,KV.clsW] using this.symm
 have hlen:(jt v).length=v.cls.length:=by simp [jt]
 refine ⟨fun w H'=>∃(i:Nat) (a:Option Addr) (l' c:Nat) (G:aS),w=[.slice a l' c,ac i]∧i<=v.cls.length∧bZ 1 H' a l' c (az ((jt v).take i)) G∧Fr [] H0 H'∧(∀ x∈G,H0.size<=x),fun w _=>match w with
  | [_,.int _ i]=>(v.cls.length-i).toNat
  | _=>0,⟨0,none,0,0,[],rfl,a07 _,by simpa [az] using bZ.nil 1 H0,Fr.refl _ _,by simp⟩,?_⟩
 rintro w H1 ⟨i,a1,l1,c1,G,rfl,hi,ho,bw,hG⟩ _;have J9:l1=i:=by have:=ho.len;simp only [az,a1p,a1q] at this;omega
 refine ⟨_,_,_,_,rfl,?_⟩;rw [ae];refine aD (fun an=>?_) fun an=>?_
 ·have b9:i<v.cls.length:=by omega
  obtain ⟨p,rfl,aj,be⟩:=(Rt.rd.fr' bw (by simp)).int (i:=(i:Int)) (by omega) an;rw [a0j] at aj be;have hx:v.clsW.getD i 0=4*(v.cls[i]).oop:=by simp [KV.clsW,b9]
  rw [hx] at aj;have hb:=kO hv b9;have lj:(jt v).take (i+1)=(jt v).take i++[(v.cls[i]).oop]:=by
   rw [a1i,a0Q (by omega)];simp [jt]
  have e:IntKind.wrap .i64 ((i:Int)+1)=((i+1:Nat):Int):=by rw [ao (by omega) (by omega)];omega
  refine ⟨⟨by omega,an⟩,_,rfl,_,by rw [a0j,a0y];exact aj,cR (eP (by omega) (by omega)) ⟨_,rfl,?_⟩⟩;rw [ia hb.1];refine bK i7 rfl (by kernel_rfl) ho rfl (by simp [dJ]) (by omega) (by decide) (by decide) fun a' c' G2 H3 g1 g2 g3=>⟨_,_,_,rfl,?_⟩;have o3:=Up.fresh bw g2 hG;rw [e];refine ⟨⟨i+1,a',l1+1,c',G2,rfl,by omega,?_,o3.1,o3.2⟩,by simp;omega⟩;rw [lj,bR];exact g1
 ·rw [a0Y (by omega)] at ho;exact h _ _ _ _ H1 ho (Tz.trans bw) fun x hx=>a0O Tz.1 (hG x hx)
theorem ue {a:Option Addr}{l c:Nat}{G:aS} (ho:bZ 1 H a l c (az (jt v)) G){H':au} (hf:Fr [] H H'){i:Nat} (hi:i<v.cls.length):∃ p,a=some p∧aq H' (p.add (i*1))=some (ac (v.cls[i]).oop):=by
 have hl:l=v.cls.length:=by have:=ho.len;simpa [az,jt] using this.symm
 obtain ⟨p,hp,aj,be⟩:=(ho.rd.fr' hf (by simp)).int (i:=(i:Int)) (by omega) (by omega);rw [a0j] at aj;refine ⟨p,hp,?_⟩;rw [a0y,aj];simp [jt,hi]
def jD (v:KV) (o:Int):Int:=match eR v o with
 | some i=>(i:Int)+1
 | none=>0
theorem pW (hK:RK H b F s t) (hv:KS s v){o:Int} (h:∀ H',Fr [] H H'->Q (ac (jD v o)) H'):ag PP 234 #[QW b,ac o] Q H:=by
 have CO:=hv.shape.many1;apply KJ;dsimp only [cq,ah,bP,aX,ay,bc,ac,bf,bX,bm,am,ax,aI];refine yM hK hv fun a l c G H1 ho bw hG=>⟨_,_,_,rfl,?_⟩;have hl:l=v.cls.length:=by have:=ho.len;simpa [az,jt] using this.symm
 refine ⟨fun w H'=>H'=H1∧∃ i:Nat,w=[ac i]∧i<=v.cls.length∧∀ j (hj:j<v.cls.length),j<i->(v.cls[j]).oop≠o,fun w _=>match w with
  | [.int _ i]=>(v.cls.length-i).toNat
  | _=>0,⟨rfl,0,rfl,a07 _,fun j _ hj=>by omega⟩,?_⟩
 rintro w H2 ⟨rfl,i,rfl,hi,b8⟩ _;refine ⟨_,rfl,?_⟩;rw [ae];refine aD (fun an=>?_) fun an=>?_
 ·have b9:i<v.cls.length:=by omega
  obtain ⟨p,rfl,aj⟩:=ue ho (Fr.refl _ _) b9;have e:IntKind.wrap .i64 ((i:Int)+1)=((i+1:Nat):Int):=by rw [ao (by omega) (by omega)];omega
  have hb:=(kO hv b9).1;refine ⟨⟨by omega,an⟩,_,rfl,_,by rw [a0j];exact aj,?_⟩;rw [bq,ae];refine aD (fun he=>?_) fun he=>?_
  ·rw [ae,a0b (by omega),e]
   have:jD v o=((i+1:Nat):Int):=by
    unfold jD;rw [←he,hv.idx b9];simp
   rw [←this];exact h _ bw
  ·rw [e];refine ⟨⟨rfl,i+1,rfl,by omega,fun j hj JW=>?_⟩,by simp;omega⟩;rcases a2t j i with h5 | h5
   ·exact b8 j hj h5
   ·have:j=i:=by omega
    subst this;exact he
 ·have:jD v o=0:=by
   unfold jD;cases hp:eR v o with
   | none=>rfl
   | some j =>
    obtain ⟨hj,e⟩:=dS hp;exact absurd e (b8 j hj (by omega))
  rw [←this];exact h _ bw
theorem P6 (hK:RK H b F s t) (hv:KS s v){i:Nat} (hi:i<v.cls.length) (h:Q (ac (dG v i)) H):ag PP 318 #[QW b,ac (v.cls[i]).oop] Q H:=by
 have hb:=hv.upB hi;apply Eu;dsimp only [aC,ah,ac,am];refine oL hK ⟨_,rfl,?_⟩;rw [hv.c1 hi];refine cR (eP (by omega) (by omega)) ⟨_,rfl,?_⟩;rw [ia hb.1,bq,ae];unfold dG at h;rw [a0Q hi] at h;simp only at h;refine aD (fun h1=>?_) fun h1=>?_
 ·rw [a0b h1] at h;exact h
 ·rw [a0a h1] at h;exact h
theorem xU (hK:RK H b F s t) (hv:KAllW s t v){i:Nat} (hi:i<v.cls.length){Q:QT} (h:Q (.string (tx t (v.cls[i]).name)) H) :
  ag PP 241 #[QW b,ac (v.cls[i]).oop,ac 0] (fun v2 H1=>∃ n3:Int,v2=ac n3∧ag PP 314 #[QW b,ac n3] Q H1) H:=by
 have hn:=hv.names.name _ (a04 hi);have h3:=hv.names.wf.m1;have h4:=hv.names.wf.len;refine oL hK ⟨_,rfl,?_⟩;rw [hv.ks.c0 hi];refine xJ hK (eP (by unfold fw;omega) (by unfold fw;omega)) ?_;rw [mA hv.names.wf hn];exact h
theorem Bk (hK:RK H b F s t) (hv:KAllW s t v){name:ByteArray} (h:∀ H',Fr [] H H'->Q (.tuple #[ac (fy v t name).1,ac (fy v t name).2]) H'):ag PP 233 #[QW b,.string name] Q H:=by
 have CO:=hv.ks.shape.many1;apply GO;dsimp only [aA,aC,cq,eI,ah,aX,ay,bc,ac,bf,bX,bm,am,aI];refine yM hK hv.ks fun a l c G H1 ho bw hG=>⟨_,_,_,rfl,?_⟩;have hl:l=v.cls.length:=by have:=ho.len;simpa [az,jt] using this.symm
 have s5:=hK.nil bw;refine ⟨fun w H'=>H'=H1∧∃ i:Nat,w=[ac i]∧i<=v.cls.length∧∀ j (hj:j<v.cls.length),j<i->tx t (v.cls[j]).name≠name,fun w _=>match w with
  | [.int _ i]=>(v.cls.length-i).toNat
  | _=>0,⟨rfl,0,rfl,a07 _,fun j _ hj=>by omega⟩,?_⟩
 rintro w H2 ⟨rfl,i,rfl,hi,Db⟩ _;refine ⟨_,rfl,?_⟩;rw [ae];refine aD (fun an=>?_) fun an=>?_
 ·have b9:i<v.cls.length:=by omega
  obtain ⟨p,rfl,aj⟩:=ue ho (Fr.refl _ _) b9;have e:IntKind.wrap .i64 ((i:Int)+1)=((i+1:Nat):Int):=by rw [ao (by omega) (by omega)];omega
  refine ⟨⟨by omega,an⟩,_,rfl,_,by rw [a0j];exact aj,xU s5 hv b9 ⟨_,rfl,?_⟩⟩;rw [cV,ae];refine aD (fun he=>?_) fun he=>?_
  ·have Vk:fy v t name=((v.cls[i]).oop,0):=by
    unfold fy
    have:v.cls.findIdx? (fun c=>decide (tx t c.name=name))=some i:=by
     rw [a3c];exact ⟨b9,by simpa using he,fun j hj=>by simpa using Db j (by omega) hj⟩
    rw [this];simp [b9]
   rw [Vk] at h;exact ⟨⟨by omega,an⟩,_,rfl,_,by rw [a0j];exact aj,h _ bw⟩
  ·rw [e];refine ⟨⟨rfl,i+1,rfl,by omega,fun j hj JW=>?_⟩,by simp;omega⟩;rcases a2t j i with h1 | h1
   ·exact Db j hj h1
   ·have:j=i:=by omega
    subst this;exact he
 ·have Vk:fy v t name=(0,130):=by
   unfold fy
   have:v.cls.findIdx? (fun c=>decide (tx t c.name=name))=none:=by
    rw [a3r];intro c hc;obtain ⟨j,hj,rfl⟩:=hv.ks.view.idx hc;simpa using Db j hj (by omega)
   rw [this]
  rw [Vk] at h;exact h _ bw
theorem wG (hK:RK H b F s t) (hv:KAllW s t v){o:Int} (h:∀ H',Fr [] H H'->Q (match eR v o with | some i=>.tuple #[ac ((i:Int)+1),ac 0] | none=>.tuple #[ac 0,ac 130]) H'):ag PP 265 #[QW b,ac o] Q H:=by
 apply DP;dsimp only [aA,aC,ah,ac,am];refine pW hK hv.ks fun H1 bw=>⟨_,rfl,?_⟩
 have:=h H1 bw;unfold jD;cases hp:eR v o with
 | none=>rw [hp] at this;exact this
 | some i =>
  rw [hp] at this;rw [bq,ae,a0a (by simp only;omega)];exact this
theorem Ex (hK:RK H b F s t) (hv:KAllW s t v){o:Int} (h:∀ H',Fr [] H H'->Q (match eR v o with | some i=>.tuple #[ac (dG v i),ac 0] | none=>.tuple #[ac 0,ac 130]) H'):ag PP 249 #[QW b,ac o] Q H:=by
 apply IR;dsimp only [aA,aC,ah,ac,am];refine pW hK hv.ks fun H1 bw=>⟨_,rfl,?_⟩
 have:=h H1 bw;unfold jD;cases hp:eR v o with
 | none=>rw [hp] at this;exact this
 | some i =>
  rw [hp] at this;obtain ⟨hi,rfl⟩:=dS hp;rw [bq,ae,a0a (by simp only;omega)];exact P6 (hK.nil bw) hv.ks hi ⟨_,rfl,this⟩
theorem L4 (hK:RK H b F s t) (hv:KAllW s t v){w:Int} (h:Q (.tuple #[ac (mQ s.h w).1,ac (mQ s.h w).2]) H):ag PP 106 #[QW b,ac w] Q H:=by
 have hk:=bE w;apply DX;dsimp only [aA,bk,aC,ah,ak,aF,ac,mS,aE,am];unfold mQ at h;refine ⟨fun x H'=>x=[]∧H'=H∧aU w≠1,yI ⟨_,rfl,?_⟩,?_⟩
 ·rw [ae];refine aD (fun h1=>?_) fun h1=>⟨rfl,rfl,fun e=>h1 (by unfold dL;omega)⟩;rw [bn,ae];refine aD (fun h2=>?_) fun h2=>⟨rfl,rfl,fun e=>h2 ?_⟩
  ·have h3:aU w=1:=by
    have h4:w % 2≠0:=fun e=>h2 (Int.dvd_iff_tmod_eq_zero.1 (Int.dvd_of_emod_eq_zero e));unfold dL at h1;omega
   rw [a0b h3] at h;exact h
  ·intro e2;have h4:w % 2=0:=Int.emod_eq_zero_of_dvd (Int.dvd_of_tmod_eq_zero e2);omega
 rintro x H1 ⟨rfl,rfl,h1⟩ _;rw [a0a h1] at h;refine ⟨rfl,yI ⟨_,rfl,?_⟩⟩;rw [←decide_not,ae];refine aD (fun h2=>?_) fun h2=>?_
 ·rw [a0a (by unfold dL at h2;omega),a0a (by unfold dL at h2;omega)] at h;exact h
 have hw:dL w:=a0v h2;unfold dL at hw;have JR:0<=w:=by omega
 rw [bq,ae,a2v JR];refine aD (fun h3=>?_) fun h3=>?_
 ·rw [a0b (by omega)] at h;exact h
 have SE:aU w=3:=by omega
 rw [a0a (by omega),a0b SE] at h;obtain ⟨sb,hb,F1,hc,c0,hR,_⟩:=hK.hp;have hro:gg w=w / 4:=by unfold gg;rw [a0b (by omega)]
 refine ⟨_,rfl,_,hc,_,rfl,_,c0,cR (eP (by omega) (by omega)) ⟨_,rfl,⟨⟨c0,trivial⟩,⟨hc,trivial⟩,trivial⟩,lF hR ?_⟩⟩;rw [hro];unfold RH.clsAt at h ⊢;cases ho:aT s.h.objs (w / 4) with
 | none=>rw [ho] at h;exact ⟨_,_,rfl,trivial,h⟩
 | some x =>
  rw [ho] at h;refine ⟨_,_,rfl,trivial,?_⟩;have D7:=hv.ks.gc x (aR ho).1;have OU:=bE x.cls;simp only [show ((0:Int) != 0)=false from rfl,a0f];refine cR (eP (by omega) (by omega)) ⟨_,rfl,?_⟩;have a1I:gg x.cls=x.cls / 4:=by unfold gg;rw [a0b (by omega)]
  rw [a1I];simp only [d7,a0b D7] at h;exact h
end
section
variable {H:au}{b:Nat}{F:aS}{s:SP}{t:TB}{v:KV}{Q:QT}
theorem AH (hK:RK H b F s t) (hv:KAllW s t v) (h:∀ a l c G H',bZ 1 H' a l c (bC (dU v t)) G->Fr [] H H'->(∀ x∈G,H.size<=x)->Q (.slice a l c) H'):ag PP 313 #[QW b] Q H:=by
 have i7:bd PP 61=some (1,16,some (.string (⟨#[]⟩:ByteArray))):=by kernel_rfl
 have hg:=hv.ks.shape.globs;obtain ⟨e0,b0,b1⟩:=KS.s1 hv.ks;have h3:=hv.names.wf.m1;have h4:=hv.names.wf.len;apply Gj;dsimp only [aL,aC,cq,eI,ah,aX,ay,bc,ac,bf,cL,av,bm,am,aJ,bM,aO,aI];refine wU hK hv.ks e0 b0 b1 ⟨_,rfl,pX hK fun aw lw cw Gw H0 Rt Tz XC=>⟨_,_,_,rfl,?_⟩⟩;rw [show kwords s.h v.globA=gR v.glob from hv.ks.view.globs.kwords] at Rt;have Tp:=oe v.glob;have VE:lw=2*v.glob.length:=by have:=Rt.len;simp only [az,a1p,Tp] at this;omega
 have hlen:(dU v t).length=v.glob.length:=by simp [dU]
 refine ⟨fun w H'=>∃(i:Nat) (a:Option Addr) (l' c:Nat) (G:aS),w=[.slice a l' c,ac (2*i:Nat)]∧i<=v.glob.length∧bZ 1 H' a l' c (bC ((dU v t).take i)) G∧Fr [] H0 H'∧(∀ x∈G,H0.size<=x),fun w _=>match w with
  | [_,.int _ i]=>(2*v.glob.length-i).toNat
  | _=>0,⟨0,none,0,0,[],rfl,a07 _,by simpa [bC] using bZ.nil 1 H0,Fr.refl _ _,by simp⟩,?_⟩
 rintro w H1 ⟨i,a1,l1,c1,G,rfl,hi,ho,bw,hG⟩ _;have J9:l1=i:=by have:=ho.len;simp only [bC,a1p,a1q] at this;omega
 refine ⟨_,_,_,_,rfl,?_⟩;have ew:IntKind.wrap .i64 (((2*i:Nat):Int)+1)=((2*i:Nat):Int)+1:=ao (by omega) (by omega);rw [ew,ae];refine aD (fun an=>?_) fun an=>?_
 ·have b9:i<v.glob.length:=by omega
  obtain ⟨p,rfl,aj,be⟩:=(Rt.rd.fr' bw (by simp)).int (i:=((2*i:Nat):Int)) (by omega) (by omega);rw [a0j] at aj be;have hx:(gR v.glob).getD (2*i) 0=fw v.glob[i].1:=by
   rw [a1f,(sn b9).1];rfl
  rw [hx] at aj;have hn:=hv.names.glob _ (a04 b9);have lj:(dU v t).take (i+1)=(dU v t).take i++[tx t v.glob[i].1]:=by
   rw [a1i,a0Q (by omega)];simp [dU]
  have e:IntKind.wrap .i64 (((2*i:Nat):Int)+2)=((2*(i+1):Nat):Int):=by rw [ao (by omega) (by omega)];omega
  refine ⟨⟨by omega,by omega⟩,_,rfl,_,by rw [a0j,a0y];exact aj,xJ (hK.nil (Tz.trans bw)) (eP (by unfold fw;omega) (by unfold fw;omega)) ⟨_,rfl,?_⟩⟩;rw [mA hv.names.wf hn];refine bK i7 rfl (by kernel_rfl) ho rfl (by simp [dJ]) (by omega) (by decide) (by decide) fun a' c' G2 H3 g1 g2 g3=>⟨_,_,_,rfl,?_⟩;have o3:=Up.fresh bw g2 hG;rw [e];refine ⟨⟨i+1,a',l1+1,c',G2,rfl,by omega,?_,o3.1,o3.2⟩,by simp;omega⟩;rw [lj,dB];exact g1
 ·rw [a0Y (by omega)] at ho;exact h _ _ _ _ H1 ho (Tz.trans bw) fun x hx=>a0O Tz.1 (hG x hx)
theorem Lk (hK:RK H b F s t) (hv:KAllW s t v){name:ByteArray} (h:∀ H',Fr [] H H'->Q (.bool (decide (jG v t name))) H'):ag PP 232 #[QW b,.string name] Q H:=by
 have hg:=hv.ks.shape.globs;apply GA;dsimp only [aP,cq,ah,ak,aX,cX,bc,ac,bf,bX,bm,am,aO,aI];refine Bk hK hv fun H1 bw=>⟨_,_,rfl,AH (hK.nil bw) hv fun a l c G H2 ho fa hG=>⟨_,_,_,rfl,?_⟩⟩;have D3:=bw.trans fa;have hl:l=(dU v t).length:=by have:=ho.len;simpa [bC] using this.symm
 have K2:(dU v t).length=v.glob.length:=by simp [dU]
 refine ⟨fun w H'=>H'=H2∧∃ i:Nat,w=[ac i]∧i<=l∧∀ j (hj:j<(dU v t).length),j<i->(dU v t)[j]≠name,fun w _=>match w with
  | [.int _ i]=>(l-i).toNat
  | _=>0,⟨rfl,0,rfl,a07 _,fun j _ hj=>by omega⟩,?_⟩
 rintro w H3 ⟨rfl,i,rfl,hi,b8⟩ _;refine ⟨_,rfl,?_⟩;rw [ae];refine aD (fun an=>?_) fun an=>?_
 ·obtain ⟨p,be,rfl,aj⟩:=ho.rd.str (i:=(i:Int)) (by omega) an;simp only [a0j] at aj be;have e:IntKind.wrap .i64 ((i:Int)+1)=((i+1:Nat):Int):=by rw [ao (by omega) (by omega)];omega
  refine ⟨⟨by omega,an⟩,_,rfl,_,by rw [a0j,a0y];exact aj,?_⟩;rw [cV,ae];refine aD (fun he=>?_) fun he=>?_
  ·have:=h _ D3;rw [a00 (show jG v t name from .inr (he ▸ a04 be))] at this;exact this
  ·rw [e];refine ⟨⟨rfl,i+1,rfl,by omega,fun j hj JW=>?_⟩,by simp;omega⟩;rcases a2t j i with h5 | h5
   ·exact b8 j hj h5
   ·have:j=i:=by omega
    subst this;exact he
 ·have Db:name∉dU v t:=fun hm=>by
   obtain ⟨j,hj,he⟩:=a2O hm;exact b8 j hj (by omega) he
  have:=h _ D3;have e:decide (jG v t name)=((fy v t name).2 == 0):=by
   rw [bq,decide_eq_decide];unfold jG;exact ⟨fun h=>h.resolve_right Db,.inl⟩
  rw [e] at this;exact this
theorem KH (hK:RK H b F s t) (hv:KAllW s t v){i:Nat} (hi:i<v.cls.length) (h:∀ a l c G H',bZ 1 H' a l c (bC ((v.cls[i]).own.map (tx t))) G->Fr [] H H'->(∀ x∈G,H.size<=x)->Q (.slice a l c) H'):ag PP 388 #[QW b,ac (v.cls[i]).ownA] Q H:=by
 have i7:bd PP 61=some (1,16,some (.string (⟨#[]⟩:ByteArray))):=by kernel_rfl
 have h3:=hv.names.wf.m1;have h4:=hv.names.wf.len;have fb:=hv.ks.view.own hi;have VB:(v.cls[i]).own.length<=8192:=by have:=(fb.bnd hv.ks.wf.h).2.2.1;simpa using this
 apply HJ;dsimp only [aL,cq,eI,ah,aX,ay,bc,ac,bf,cL,av,bm,am,aJ,bM,aO,aI];refine pX hK fun aw lw cw Gw H0 Rt Tz XC=>⟨_,_,_,rfl,?_⟩;rw [fb.kwords] at Rt;have VE:lw=(v.cls[i]).own.length:=by have:=Rt.len;simpa [az] using this.symm
 refine ⟨fun w H'=>∃(k:Nat) (a:Option Addr) (l' c:Nat) (G:aS),w=[.slice a l' c,ac k]∧k<=(v.cls[i]).own.length∧bZ 1 H' a l' c (bC (((v.cls[i]).own.map (tx t)).take k)) G∧Fr [] H0 H'∧(∀ x∈G,H0.size<=x),fun w _=>match w with
  | [_,.int _ k]=>((v.cls[i]).own.length-k).toNat
  | _=>0,⟨0,none,0,0,[],rfl,a07 _,by simpa [bC] using bZ.nil 1 H0,Fr.refl _ _,by simp⟩,?_⟩
 rintro w H1 ⟨k,a1,l1,c1,G,rfl,hk,ho,bw,hG⟩ _;have J9:l1=k:=by have:=ho.len;simp only [bC,a1p,a1q] at this;omega
 refine ⟨_,_,_,_,rfl,?_⟩;rw [ae];refine aD (fun an=>?_) fun an=>?_
 ·have b9:k<(v.cls[i]).own.length:=by omega
  obtain ⟨p,rfl,aj,be⟩:=(Rt.rd.fr' bw (by simp)).int (i:=(k:Int)) (by omega) an;rw [a0j] at aj be;have hx:((v.cls[i]).own.map fw).getD k 0=fw (v.cls[i]).own[k]:=by simp [b9]
  rw [hx] at aj;have hn:=hv.names.own _ (a04 hi) _ (a04 b9);have lj:((v.cls[i]).own.map (tx t)).take (k+1)=((v.cls[i]).own.map (tx t)).take k++[tx t (v.cls[i]).own[k]]:=by
   rw [a1i,a0Q (by simpa using b9)];simp
  have e:IntKind.wrap .i64 ((k:Int)+1)=((k+1:Nat):Int):=by rw [ao (by omega) (by omega)];omega
  refine ⟨⟨by omega,an⟩,_,rfl,_,by rw [a0j,a0y];exact aj,xJ (hK.nil (Tz.trans bw)) (eP (by unfold fw;omega) (by unfold fw;omega)) ⟨_,rfl,?_⟩⟩;rw [mA hv.names.wf hn];refine bK i7 rfl (by kernel_rfl) ho rfl (by simp [dJ]) (by omega) (by decide) (by decide) fun a' c' G2 H3 g1 g2 g3=>⟨_,_,_,rfl,?_⟩;have o3:=Up.fresh bw g2 hG;rw [e];refine ⟨⟨k+1,a',l1+1,c',G2,rfl,by omega,?_,o3.1,o3.2⟩,by simp;omega⟩;rw [lj,dB];exact g1
 ·rw [a0Y (by simp;omega)] at ho;exact h _ _ _ _ H1 ho (Tz.trans bw) fun x hx=>a0O Tz.1 (hG x hx)
end
abbrev Au (R0 LC:Addr) (Q:QT) (H6:au):Prop :=
 ∃ s36:ByteArray,aq H6 LC=some (.string s36)∧∃ s37:ByteArray,aq H6 (LC.add 1)=some (.string s37)∧∃ a38:Option Addr,∃ l38:Nat,∃ c38:Nat,aq H6 (LC.add 2)=some (.slice a38 l38 c38)∧∃ n39:Int,aq H6 (LC.add 3)=some (ac n39) ∧
 Wr H6 R0∧Wr (aQ H6 R0 (.string s36)) (R0.add 1)∧Wr (aQ (aQ H6 R0 (.string s36)) (R0.add 1) (.string s37)) (R0.add 2)∧Wr (aQ (aQ (aQ H6 R0 (.string s36)) (R0.add 1) (.string s37)) (R0.add 2) (.slice a38 l38 c38)) (R0.add 3) ∧
 ∃ s40:ByteArray,aq (aQ (aQ (aQ (aQ H6 R0 (.string s36)) (R0.add 1) (.string s37)) (R0.add 2) (.slice a38 l38 c38)) (R0.add 3) (ac n39)) R0=some (.string s40) ∧
 ∃ s41:ByteArray,aq (aQ (aQ (aQ (aQ H6 R0 (.string s36)) (R0.add 1) (.string s37)) (R0.add 2) (.slice a38 l38 c38)) (R0.add 3) (ac n39)) (R0.add 1)=some (.string s41) ∧
 ∃ a42:Option Addr,∃ l42:Nat,∃ c42:Nat,aq (aQ (aQ (aQ (aQ H6 R0 (.string s36)) (R0.add 1) (.string s37)) (R0.add 2) (.slice a38 l38 c38)) (R0.add 3) (ac n39)) (R0.add 2)=some (.slice a42 l42 c42) ∧
 ∃ n43:Int,aq (aQ (aQ (aQ (aQ H6 R0 (.string s36)) (R0.add 1) (.string s37)) (R0.add 2) (.slice a38 l38 c38)) (R0.add 3) (ac n39)) (R0.add 3)=some (ac n43) ∧
 Q (.agg #[.string s40,.string s41,.slice a42 l42 c42,ac n43]) (aQ (aQ (aQ (aQ H6 R0 (.string s36)) (R0.add 1) (.string s37)) (R0.add 2) (.slice a38 l38 c38)) (R0.add 3) (ac n39))
section
variable {H:au}{b:Nat}{F:aS}{s:SP}{t:TB}{v:KV}{Q:QT}
theorem rB {r0 lc:Nat}{nm sup:ByteArray}{a:Option Addr}{l c:Nat}{ly:Int}{cs:Array Value} (ZE:bI H lc #[.string nm,.string sup,.slice a l c,ac ly]) (w6:bI H r0 cs) (zw:cs.size=4)
  (h:∀ H',Fr [r0] H H'->Q (.agg #[.string nm,.string sup,.slice a l c,ac ly]) H'):Au ⟨r0,0,none⟩ ⟨lc,0,none⟩ Q H:=by
 obtain ⟨x0,x1,x2,x3,rfl⟩:∃ x0 x1 x2 x3,cs=#[x0,x1,x2,x3]:=by
  obtain ⟨l⟩:=cs
  match l,zw with
  | [x0,x1,x2,x3],_=>exact ⟨_,_,_,_,rfl⟩
 obtain ⟨w0,w1,w2,w3,hB,hf⟩:=C5 w6 (o:=0) (by omega) (.string nm) (.string sup) (.slice a l c) (ac ly);exact ⟨_,ZE.cell 0,_,ZE.cell 1,_,_,_,ZE.cell 2,_,ZE.cell 3,w0,w1,w2,w3,_,hB.cell 0,_,hB.cell 1,_,_,_,hB.cell 2,_,hB.cell 3,h _ hf⟩
theorem NB {n:Int} (h0:-1000000000000<=n) (h1:n<=1000000000000) (h:Q (ac n) H):ag PP 389 #[ac (2*n+1)] Q H:=by
 apply GX;dsimp only [ac,aI];have e1:IntKind.wrap .i64 (2*n+1-1)=2*n:=by rw [ao (by omega) (by omega)];omega
 have e2:Int.tdiv (2*n) 2=n:=by rw [a3i];exact Int.mul_tdiv_cancel _ (by decide)
 have e3:IntKind.wrap .i64 n=n:=ao (by omega) (by omega);rw [e1,e2,e3];exact h
theorem De (hK:RK H b F s t) (hv:KAllW s t v){i:Nat} (hi:i<v.cls.length) (h:∀ a l c G H',bZ 1 H' a l c (bC (cZ v t i).own) G->Fr [] H H'->(∀ x∈G,H.size<=x)->Q (.agg #[.string (cZ v t i).name,.string (cZ v t i).sup,.slice a l c,ac (cZ v t i).lay]) H') :
  ag PP 364 #[QW b,ac (v.cls[i]).oop] Q H:=by
 apply Ho;dsimp only [aL,aN,aC,cq,eI,ah,ay,aK,cX,aZ,ac,av,am,aJ,aO,ax,bj];have OQ:=(hv.ks.view.own hi).bnd hv.ks.wf.h;have D4:=hv.ks.shape.lay _ (a04 hi);have w5:Fr [] H (H.push (.cells #[.string (⟨#[]⟩:ByteArray),.string (⟨#[]⟩:ByteArray),.slice none 0 0,ac 0] 308)):=Fr.push _ _ _;have w6:=bI.new H #[.string (⟨#[]⟩:ByteArray),.string (⟨#[]⟩:ByteArray),.slice none 0 0,ac 0] 308;have An:=hK.nil w5;generalize (H.push (.cells #[.string (⟨#[]⟩:ByteArray),.string (⟨#[]⟩:ByteArray),.slice none 0 0,ac 0] 308))=H0 at w5 w6 An ⊢;have hI:cZ v t i=⟨tx t (v.cls[i]).name,(cZ v t i).sup,(v.cls[i]).own.map (tx t),(v.cls[i]).lay⟩:=by
  unfold cZ;rw [a0Q hi]
 have en:(cZ v t i).name=tx t (v.cls[i]).name:=by rw [hI]
 have eo:(cZ v t i).own=(v.cls[i]).own.map (tx t):=by rw [hI]
 have el:(cZ v t i).lay=(v.cls[i]).lay:=by rw [hI]
 rw [en,eo,el] at h;refine xU An hv hi ⟨_,rfl,oL An ⟨_,rfl,?_⟩⟩;rw [hv.ks.c2 hi];refine cR (eP (by omega) (by omega)) ⟨_,rfl,?_⟩;rw [ia OQ.1];refine KH An hv hi fun a l c G H1 ho bw hG=>⟨_,_,_,rfl,oL (An.nil bw) ⟨_,rfl,?_⟩⟩;rw [hv.ks.c5 hi];refine NB (by omega) (by omega) ⟨_,rfl,?_⟩;have fa:Fr [] H1 (H1.push (.cells #[.string (⟨#[]⟩:ByteArray),.string (⟨#[]⟩:ByteArray),.slice none 0 0,ac 0] 308)):=Fr.push _ _ _;have hL:=bI.new H1 #[.string (⟨#[]⟩:ByteArray),.string (⟨#[]⟩:ByteArray),.slice none 0 0,ac 0] 308;have SN:H.size<H1.size:=a0X w6.lt bw.1;generalize hH2:(H1.push (.cells #[.string (⟨#[]⟩:ByteArray),.string (⟨#[]⟩:ByteArray),.slice none 0 0,ac 0] 308))=H2 at fa hL ⊢;obtain ⟨w0,w1,w2,w3,hB,l7⟩:=C5 hL (o:=0) (by simp) (.string (tx t (v.cls[i]).name)) (.string ⟨#[]⟩) (.slice a l c) (ac (v.cls[i]).lay);refine ⟨w0,w1,w2,w3,?_⟩;have D3:=(w5.trans bw).trans fa;have J3:=(Up.fresh D3 (F:=[H1.size]) (F':=[H1.size]) ⟨l7,fun _ h=>.inl h⟩ (by simp;omega)).1;have W5:∀ x∈G,H.size<x∧x<H1.size:=fun x hx=>⟨a0X w6.lt (hG x hx),ho.lt x hx⟩;have Uk:=((w6.fr bw (by simp)).fr fa (by simp)).fr l7 (by simp;omega);have Sf:bI _ H1.size #[.string (tx t (v.cls[i]).name),.string ⟨#[]⟩,.slice a l c,ac (v.cls[i]).lay]:=hB;have Ji:bZ 1 (aQ (aQ (aQ (aQ H2 ⟨H1.size,0,none⟩ (.string (tx t (v.cls[i]).name))) ⟨H1.size,0+1,none⟩ (.string ⟨#[]⟩)) ⟨H1.size,0+2,none⟩ (.slice a l c)) ⟨H1.size,0+3,none⟩ (ac (v.cls[i]).lay)) a l c (bC ((v.cls[i]).own.map (tx t))) G :=
  (ho.fr fa (by simp)).fr l7 fun x hx hm=>by simp only [a0A] at hm;have:=(W5 x hx).2;omega
 have fin:∀ H' (_:Fr [H1.size,H.size] (aQ (aQ (aQ (aQ H2 ⟨H1.size,0,none⟩ (.string (tx t (v.cls[i]).name))) ⟨H1.size,0+1,none⟩ (.string ⟨#[]⟩)) ⟨H1.size,0+2,none⟩ (.slice a l c)) ⟨H1.size,0+3,none⟩ (ac (v.cls[i]).lay)) H'),Q (.agg #[.string (tx t (v.cls[i]).name),.string (cZ v t i).sup,.slice a l c,ac (v.cls[i]).lay]) H':=by
  intro H' s7;refine h a l c G H' (Ji.fr s7 fun x hx hm=>?_) ?_ fun x hx=>Nat.le_of_lt (W5 x hx).1
  ·have:=W5 x hx;simp only [a0E,a1l,a2h] at hm;omega
  ·exact (Up.fresh J3 (F:=[H1.size,H.size]) (F':=[H1.size,H.size]) ⟨s7,fun _ h=>.inl h⟩ (by simp;omega)).1
 have I4:=hK.nil J3;show ag PP 318 _ _ (aQ (aQ (aQ (aQ H2 ⟨H1.size,0,none⟩ (.string (tx t (v.cls[i]).name))) ⟨H1.size,0+1,none⟩ (.string ⟨#[]⟩)) ⟨H1.size,0+2,none⟩ (.slice a l c)) ⟨H1.size,0+3,none⟩ (ac (v.cls[i]).lay));generalize (aQ (aQ (aQ (aQ H2 ⟨H1.size,0,none⟩ (.string (tx t (v.cls[i]).name))) ⟨H1.size,0+1,none⟩ (.string ⟨#[]⟩)) ⟨H1.size,0+2,none⟩ (.slice a l c)) ⟨H1.size,0+3,none⟩ (ac (v.cls[i]).lay))=H3 at *;refine P6 I4 hv.ks hi ⟨_,rfl,?_⟩;have JU:(cZ v t i).sup=match upIdx v i with
  | some j=>match v.cls[j]? with
   | some d=>tx t d.name
   | none=>⟨#[]⟩
  | none=>⟨#[]⟩:=by unfold cZ;rw [a0Q hi] <;> rfl
 rw [bn,ae];rcases hv.ks.upI hi with ⟨_,e0,e1⟩ | ⟨j,hj,an,e0,_,e1⟩
 ·rw [e1] at JU;simp only at JU;rw [e0,a0a (by decide)];rw [JU] at fin;exact rB Sf Uk (by simp) fun H' s7=>fin H' (s7.mono (by simp))
 ·rw [e1] at JU;simp only [a0Q hj] at JU;have hb:=(kO hv.ks hj).1;rw [e0,a0b (by omega)];refine xU I4 hv hj ⟨_,rfl,Sf.wr (o:=1) (by simp),?_⟩;rw [←JU];have Jz:Fr [H1.size] H3 (aQ H3 ⟨H1.size,1,none⟩ (.string (cZ v t i).sup)):=Fr.set (by simp);exact rB (Sf.set 1 (.string (cZ v t i).sup)) (Uk.fr Jz (by simp;omega)) (by simp) fun H' s7=>fin H' ((Jz.mono (by simp)).trans (s7.mono (by simp)))
end
def gM (n:Nat):Prop:=(97<=n∧n<=122)∨(65<=n∧n<=90)
instance (n:Nat):Decidable (gM n):=inferInstanceAs (Decidable (_∨_))
def tC (s:ByteArray):Prop:=1<=s.size∧s.size<=32∧gM (gB s 0)∧∀ i,i<s.size->dV (gB s i)
noncomputable instance (s:ByteArray):Decidable (tC s):=Classical.propDecidable _
section
variable {H:au}{Q:QT}
theorem vX {n:Nat} (h:Q (.bool (decide (gM n))) H):ag PP 362 #[.int .u8 n] Q H:=by
 apply Fy;dsimp only [aP,ah,ax];have fin:∀ x:Bool,x=decide (gM n)->Q (.bool x) H:=fun x hx=>hx ▸ h;simp only [ae];refine aD (fun h1=>aD (fun h2=>fin _ ?_) fun h2=>aD (fun h3=>fin _ ?_) fun h3=>fin _ ?_) fun h1=>aD (fun h3=>fin _ ?_) fun h3=>fin _ ?_
 all_goals
  rw [a2L];simp only [decide_eq_true_iff,true_iff,false_iff,a1M];unfold gM;omega
theorem yX {x:ByteArray} (h:Q (.bool (decide (tC x))) H):ag PP 312 #[.string x] Q H:=by
 apply Kx;dsimp only [aP,bk,ah,bP,aX,ac,bX,bm,ax,jb,aI];have no:¬ tC x->Q (.bool false) H:=fun hn=>by rw [a09 hn] at h;exact h
 rw [ae];refine aD (fun h1=>no fun hn=>by have:=hn.1;omega) fun h1=>?_;rw [ae];refine aD (fun h2=>no fun hn=>by have:=hn.2.1;omega) fun h2=>?_;have In:0<x.size:=by omega
 obtain ⟨g1,g2⟩:=rk In;refine ⟨_,⟨a1F 0,g1⟩,?_⟩;rw [g2];refine vX ⟨_,rfl,?_⟩;rw [←decide_not,ae];refine aD (fun h3=>no fun hn=>h3 hn.2.2.1) fun h3=>?_;refine ⟨fun w H'=>H'=H∧∃ i:Nat,w=[ac i]∧i<=x.size∧∀ j,j<i->dV (gB x j),fun w _=>match w with
  | [.int _ i]=>(x.size-i).toNat
  | _=>0,⟨rfl,0,rfl,a07 _,fun j hj=>by omega⟩,?_⟩
 rintro w H1 ⟨rfl,i,rfl,hi,b8⟩ _;refine ⟨_,rfl,?_⟩;rw [ae];refine aD (fun an=>?_) fun an=>?_
 ·have b9:i<x.size:=by omega
  have e:IntKind.wrap .i64 ((i:Int)+1)=((i+1:Nat):Int):=by rw [ao (by omega) (by omega)];omega
  obtain ⟨k1,k2⟩:=rk b9;have go:dV (gB x i)->(True∧∃ i_1:Nat,[Value.int .i64 (IntKind.wrap .i64 ((i:Int)+1))]=[ac i_1]∧i_1<=x.size∧∀ j,j<i_1->dV (gB x j))∧((x.size:Int)-(IntKind.wrap .i64 ((i:Int)+1))).toNat<((x.size:Int)-(i:Int)).toNat:=fun ha=>by
   rw [e];refine ⟨⟨trivial,i+1,rfl,by omega,fun j hj=>?_⟩,by omega⟩;rcases a2t j i with h5 | h5
   ·exact b8 j h5
   ·have:j=i:=by omega
    rw [this];exact ha
  have bad:¬ dV (gB x i)->Q (.bool false) H1:=fun ha=>no fun hn=>ha (hn.2.2.2 i b9);have k1':x[Int.toNat (i:Int)]?=some x[i]:=by rw [a0j];exact k1
  refine ⟨_,⟨by omega,k1'⟩,?_⟩;rw [k2];refine vX ⟨_,rfl,?_⟩;rw [←decide_not,ae];have O7:gM (gB x i)->dV (gB x i):=fun h=>by unfold gM at h;unfold dV;omega
  refine aD (fun h4=>?_) fun h4=>?_
  ·refine ⟨_,⟨by omega,k1'⟩,?_⟩;rw [k2,ae];refine aD (fun h5=>bad (by unfold gM at h4;unfold dV;omega)) fun h5=>⟨_,⟨by omega,k1'⟩,?_⟩;rw [k2,ae];refine aD (fun h6=>bad (by unfold gM at h4;unfold dV;omega)) fun h6=>?_
   have:=go (by unfold dV;omega);simpa using this
  ·have:=go (O7 (a0v h4));simpa using this
 ·have:i=x.size:=by omega
  subst this;have WX:tC x:=⟨In,by omega,a0v h3,b8⟩;rw [a00 WX] at h;exact h
theorem wu {x:ByteArray} (h:Q (.bool (decide (jJ 65 90 x))) H):ag PP 231 #[.string x] Q H:=by
 apply FI;dsimp only [aP,bk,ah,aO,jb];refine yX ⟨_,rfl,?_⟩;rw [ae];have fin:∀ y:Bool,y=decide (jJ 65 90 x)->Q (.bool y) H:=fun y hy=>hy ▸ h;refine aD (fun hp=>?_) fun hp=>?_
 ·obtain ⟨g1,g2⟩:=rk (show 0<x.size from hp.1);refine ⟨_,⟨a1F 0,g1⟩,?_⟩;rw [g2];refine fin _ ?_;rw [decide_eq_decide];have hl:=hp.2.2.1;unfold gM at hl;constructor
  ·exact fun h5=>⟨hp.1,hp.2.1,by omega,by omega,hp.2.2.2⟩
  ·rintro ⟨_,_,h6,h7,_⟩;omega
 ·refine fin _ ?_;have Db:¬ jJ 65 90 x:=fun hn=>hp ⟨hn.1,hn.2.1,.inr ⟨hn.2.2.1,hn.2.2.2.1⟩,hn.2.2.2.2⟩;rw [a09 Db]
theorem wd {x:ByteArray} (h:Q (.bool (decide (iV x))) H):ag PP 236 #[.string x] Q H:=by
 apply IY;dsimp only [aP,bk,ah,aO,ax,jb];refine yX ⟨_,rfl,?_⟩;rw [ae];have no:¬ iV x->Q (.bool false) H:=fun hn=>by rw [a09 hn] at h;exact h
 refine aD (fun hp=>?_) fun hp=>no fun hn=>hp ⟨hn.2.1,hn.2.2.1,.inl ⟨hn.2.2.2.1,hn.2.2.2.2.1⟩,hn.2.2.2.2.2⟩;obtain ⟨g1,g2⟩:=rk (show 0<x.size from hp.1);refine ⟨_,⟨a1F 0,g1⟩,?_⟩;rw [g2];simp only [cV,←decide_not,ae];refine aD (fun h0=>?_) fun h0=>no fun hn=>by have:=hn.2.2.2.1;omega
 refine aD (fun h1=>?_) fun h1=>no fun hn=>h1 fun e=>hn.1 (.inl e);refine aD (fun h2=>?_) fun h2=>no fun hn=>h2 fun e=>hn.1 (.inr (.inl e));refine aD (fun h3=>?_) fun h3=>no fun hn=>h3 fun e=>hn.1 (.inr (.inr (.inl e)));refine aD (fun h4=>?_) fun h4=>no fun hn=>h4 fun e=>hn.1 (.inr (.inr (.inr (.inl e))));have hl:=hp.2.2.1;unfold gM at hl;have e:decide (iV x)=decide (¬ x=(⟨#[102,97,108,115,101]⟩:ByteArray)):=by
  rw [decide_eq_decide];constructor
  ·exact fun hn e=>hn.1 (.inr (.inr (.inr (.inr e))))
  ·refine fun h5=>⟨fun hr=>?_,hp.1,hp.2.1,by omega,by omega,hp.2.2.2⟩;rcases hr with e | e | e | e | e <;> contradiction
 rw [e] at h;exact h
end
def gz:wX CI:=fun H ys x F=>∃ a l c,ys=[.string x.name,.string x.sup,.slice a l c,ac x.lay]∧bZ 1 H a l c (bC x.own) F
theorem gz.fr:LF gz:=fun H H' ys x F ⟨a,l,c,e,h⟩ he=>⟨a,l,c,e,h.keep he⟩
theorem gz.lt:Mn gz:=fun H ys x F ⟨a,l,c,e,h⟩=>h.lt
def fJ (v:KV) (t:TB):List CI:=(List.range v.cls.length).map (cZ v t)
section
variable {H:au}{b:Nat}{F:aS}{s:SP}{t:TB}{v:KV}{Q:QT}
theorem Lg (hK:RK H b F s t) (hv:KAllW s t v) (h:∀ a l c G H',gb 4 gz H' a l c (fJ v t) G->Fr [] H H'->(∀ x∈G,H.size<=x)->Q (.slice a l c) H'):ag PP 316 #[QW b] Q H:=by
 have i7:bd PP 272=some (4,64,some (.agg #[.string (⟨#[]⟩:ByteArray),.string (⟨#[]⟩:ByteArray),.slice none 0 0,ac 0])):=by kernel_rfl
 have CO:=hv.ks.shape.many1;apply Ky;dsimp only [aL,cq,ah,se,aX,ay,bc,ac,bf,cL,av,bm,am,aJ,bM,aO,aI];refine yM hK hv.ks fun al ll cl Gl H0 VB Jz Zs=>⟨_,_,_,rfl,?_⟩;have QR:ll=v.cls.length:=by have:=VB.len;simpa [az,jt] using this.symm
 have hlen:(fJ v t).length=v.cls.length:=by simp [fJ]
 refine ⟨fun w H'=>∃(i:Nat) (a:Option Addr) (l' c:Nat) (G:aS),w=[.slice a l' c,ac i]∧i<=v.cls.length∧gb 4 gz H' a l' c ((fJ v t).take i) G∧Fr [] H0 H'∧(∀ x∈G,H0.size<=x),fun w _=>match w with
  | [_,.int _ i]=>(v.cls.length-i).toNat
  | _=>0,⟨0,none,0,0,[],rfl,a07 _,by simpa using gb.nil,Fr.refl _ _,by simp⟩,?_⟩
 rintro w H1 ⟨i,a1,l1,c1,G,rfl,hi,ho,bw,hG⟩ _;have J9:l1=i:=by have:=ho.len;simp only [a1q] at this;omega
 refine ⟨_,_,_,_,rfl,?_⟩;rw [ae];refine aD (fun an=>?_) fun an=>?_
 ·have b9:i<v.cls.length:=by omega
  obtain ⟨p,rfl,aj⟩:=ue VB bw b9;have lj:(fJ v t).take (i+1)=(fJ v t).take i++[cZ v t i]:=by
   rw [a1i,a0Q (by omega)];simp [fJ]
  have e:IntKind.wrap .i64 ((i:Int)+1)=((i+1:Nat):Int):=by rw [ao (by omega) (by omega)];omega
  refine ⟨⟨by omega,an⟩,_,rfl,_,by rw [a0j];exact aj,De (hK.nil (Jz.trans bw)) hv b9 fun a l c G2 H2 JN fa SB=>⟨_,_,_,_,_,_,rfl,?_⟩⟩;have XA:=ho.lt gz.lt;refine gb.snoc (x:=cZ v t i) (G:=G2) gz.fr gz.lt i7 rfl (by kernel_rfl) (ho.fr gz.fr gz.lt fa (bU.nil_right _)) ⟨a,l,c,rfl,JN⟩ rfl (fun x hx At=>?_) (by simp [dJ]) (by omega) (by decide) (by decide) fun a' c' F' H3 g1 g2 g3=>⟨_,_,_,rfl,?_⟩
  ·have:=XA x hx
   have:=SB x At;omega
  ·rw [e];have l7:Fr [] H0 H3:=(Up.fresh (bw.trans fa) (F:=G) (F':=G) ⟨g2,fun _ h=>.inl h⟩ hG).1;refine ⟨⟨i+1,a',l1+1,c',F',rfl,by omega,by rw [lj];exact g1,l7,fun x hx=>?_⟩,by simp;omega⟩;rcases g3 x hx with h5 | h5 | h5
   ·exact hG x h5
   ·exact a0O bw.1 (SB x h5)
   ·exact a0O (bw.trans fa).1 h5
 ·rw [a0Y (by omega)] at ho;exact h _ _ _ _ H1 ho (Jz.trans bw) fun x hx=>a0O Jz.1 (hG x hx)
theorem ng {a:Option Addr}{l c:Nat}{G:aS} (hL:gb 4 gz H a l c (fJ v t) G){i:Nat} (hi:i<v.cls.length):∃ p a2 l2 c2 G2,a=some p∧p.spot=none∧aq H (p.add (i*4))=some (.string (cZ v t i).name)∧aq H ((p.add (i*4)).add 1)=some (.string (cZ v t i).sup) ∧
  aq H ((p.add (i*4)).add 2)=some (.slice a2 l2 c2)∧bZ 1 H a2 l2 c2 (bC (cZ v t i).own) G2∧∀ x∈G2,x∈G:=by
 obtain ⟨p,ys,G2,hp,hsp,XD,aj,hyl,⟨a2,l2,c2,e,ho⟩,ff⟩:=hL.get (i:=i) (by simpa [fJ] using hi);have ei:(fJ v t)[i]'(by simpa [fJ] using hi)=cZ v t i:=by simp [fJ]
 rw [ei] at e ho;subst e;obtain ⟨pb,po,ps⟩:=p;simp only at hsp XD;subst hsp XD;have h0:=aj 0 (by decide);have h1:=aj 1 (by decide);have h2:=aj 2 (by decide);refine ⟨_,a2,l2,c2,G2,hp,rfl,?_,?_,?_,ho,ff⟩
 ·rw [aB,a0K];exact h0
 ·rw [aB,aB,a0K];exact h1
 ·rw [aB,aB,a0K];exact h2
theorem Pn {a:Option Addr}{l c:Nat}{G:aS} (hL:gb 4 gz H a l c (fJ v t) G){n:Nat} (hn:n<=v.cls.length) (hm:v.cls.length<=256){x:ByteArray}
  (h1:∀ j,j<n->(cZ v t j).name=x->(∀ k,k<j->(cZ v t k).name≠x)->Q (ac j) H) (h2:(∀ k,k<n->(cZ v t k).name≠x)->Q (ac (-1)) H) :
  ag PP 363 #[.slice a l c,ac n,.string x] Q H:=by
 have hl:l=v.cls.length:=by have:=hL.len;simpa [fJ] using this
 apply IV;dsimp only [ah,aX,cX,bc,ac,bf,bX,bm,aI];refine ⟨fun w H'=>H'=H∧∃ i:Nat,w=[ac i]∧i<=n∧∀ k,k<i->(cZ v t k).name≠x,fun w _=>match w with
  | [.int _ i]=>(n-i).toNat
  | _=>0,⟨rfl,0,rfl,a07 _,fun k hk=>by omega⟩,?_⟩
 rintro w H1 ⟨rfl,i,rfl,hi,Db⟩ _;refine ⟨_,rfl,?_⟩;rw [ae];refine aD (fun an=>?_) fun an=>?_
 ·obtain ⟨p,a2,l2,c2,G2,rfl,_,c0,_⟩:=ng hL (i:=i) (by omega);have e:IntKind.wrap .i64 ((i:Int)+1)=((i+1:Nat):Int):=by rw [ao (by omega) (by omega)];omega
  refine ⟨⟨by omega,by omega⟩,_,rfl,_,by rw [a0j];exact c0,?_⟩;rw [cV,ae];refine aD (fun he=>h1 i (by omega) he Db) fun he=>?_;rw [e];refine ⟨⟨rfl,i+1,rfl,by omega,fun k hk=>?_⟩,by simp;omega⟩;rcases a2t k i with h5 | h5
  ·exact Db k h5
  ·have:k=i:=by omega
   subst this;exact he
 ·have:i=n:=by omega
  subst this;exact h2 Db
end
def gD (pl:List (Value × List ByteArray)) (n:Nat):List ByteArray:=((pl.drop n).reverse.map (·.2)).flatten
theorem qb {pl:List (Value × List ByteArray)}{n:Nat} (h:n<pl.length):gD pl n=gD pl (n+1)++(pl[n]).2:=by
 unfold gD;rw [a1S h];simp only [List.reverse_cons,a2m,a2k,a26,List.flatten_append,List.flatten_cons,List.flatten_nil,a2S]
theorem AU (pl:List (Value × List ByteArray)):gD pl pl.length=[]:=by simp [gD]
theorem qn (pl:List (Value × List ByteArray)) (x:Value × List ByteArray):gD (pl++[x]) 0=x.2++gD pl 0:=by simp [gD]
theorem zD {pl:List (Value × List ByteArray)}:∀ (k n:Nat),n+k=pl.length->∃ r,gD pl 0=gD pl n++r∧True:=by
 intro k n hk
 induction n generalizing k with
 | zero=>exact ⟨[],by simp,trivial⟩
 | succ n ih =>
  obtain ⟨r,e,_⟩:=ih (k+1) (by omega);exact ⟨(pl[n]'(by omega)).2++r,by rw [e,qb (by omega)];simp,trivial⟩
def Bz (H:au) (p:Value × List ByteArray):Prop:=∃ a l c,p.1=.slice a l c∧Rd 1 H a l (bC p.2)
section
variable {H:au}{b:Nat}{F:aS}{s:SP}{t:TB}{v:KV}{Q:QT}
theorem jl {i:Nat} (hi:i<v.cls.length):(cZ v t i).name=tx t (v.cls[i]).name∧(cZ v t i).own=(v.cls[i]).own.map (tx t):=by
 unfold cZ;rw [a0Q hi];exact ⟨rfl,rfl⟩
theorem CA (hv:KAllW s t v){i j:Nat} (hi:i<v.cls.length) (hj:j<v.cls.length) (h:(cZ v t i).name=(cZ v t j).name):i=j:=by
 rw [(jl hi).1,(jl hj).1] at h
 have:=NQ hv.names.wf (hv.names.name _ (a04 hi)) (hv.names.name _ (a04 hj)) h;have hn:=hv.names.nodup;have e1:(v.cls.map (·.name))[i]'(by simpa using hi)=(v.cls.map (·.name))[j]'(by simpa using hj):=by simpa using this
 exact (a4z hn).1 e1
theorem Il (hv:KAllW s t v){i:Nat} (hi:i<v.cls.length):(cZ v t i).name≠⟨#[]⟩:=by
 rw [(jl hi).1]
 have:=DQ hv.names.wf (hv.names.name _ (a04 hi));intro e;rw [e] at this;exact absurd this.1 (by decide)
theorem KO (hv:KAllW s t v){a:Option Addr}{l c:Nat}{G:aS} (hL:gb 4 gz H a l c (fJ v t) G){i:Nat} (hi:i<v.cls.length)
  (h:Q (ac (match upIdx v i with | some j=>(j:Int) | none=>-1)) H):ag PP 363 #[.slice a l c,ac i,.string (cZ v t i).sup] Q H:=by
 have CO:=hv.ks.shape.many1;have JU:(cZ v t i).sup=match upIdx v i with
  | some j=>match v.cls[j]? with
   | some d=>tx t d.name
   | none=>⟨#[]⟩
  | none=>⟨#[]⟩:=by unfold cZ;rw [a0Q hi] <;> rfl
 rcases hv.ks.upI hi with ⟨_,e0,e1⟩ | ⟨j,hj,an,e0,_,e1⟩
 ·rw [e1] at JU h;simp only at JU h;refine Pn hL (Nat.le_of_lt hi) CO (fun k hk he _=>?_) fun _=>h;rw [JU] at he;exact absurd he (Il hv (by omega))
 ·rw [e1] at JU h;simp only [a0Q hj] at JU h;have hsj:(cZ v t i).sup=(cZ v t j).name:=by rw [JU,(jl hj).1]
  refine Pn hL (Nat.le_of_lt hi) CO (fun k hk he _=>?_) fun Db=>?_
  ·rw [hsj] at he
   have:=CA hv (by omega) hj he;subst this;exact h
  ·exact absurd hsj.symm (Db j an)
theorem wW (hv:KAllW s t v){a:Option Addr}{l c:Nat}{G:aS} (hL:gb 4 gz H a l c (fJ v t) G){i:Nat} (hi:i<v.cls.length)
  (h:∀ a l c G H',bZ 1 H' a l c (bC ((ch v i).map (tx t))) G->Fr [] H H'->(∀ x∈G,H.size<=x)->Q (.slice a l c) H'):ag PP 315 #[.slice a l c,ac i,ac (-1),.slice none 0 0] Q H:=by
 have i7:bd PP 61=some (1,16,some (.string (⟨#[]⟩:ByteArray))):=by kernel_rfl
 have Jw:bd PP 306=some (1,24,some (.slice none 0 0)):=by kernel_rfl
 have CO:=hv.ks.shape.many1;have Jz:=kr hv.ks i hi;have hl:l=v.cls.length:=by have:=hL.len;simpa [fJ] using this
 apply Et;dsimp only [aL,aC,ah,aX,aK,cX,bc,ac,bf,Lx,cL,av,bm,aJ,bM,aO,ax,aI];refine ⟨fun w H'=>∃(cx:Int) (a8:Option Addr) (l8 c8:Nat) (G8:aS) (pl:List (Value × List ByteArray)),w=[ac cx,.slice a8 l8 c8]∧bZ 1 H' a8 l8 c8 (pl.map (·.1)) G8∧Fr [] H H'∧(∀ x∈G8,H.size<=x)∧(∀ p∈pl,Bz H p)∧pl.length+(cx+1).toNat<=i+1 ∧
   ((cx=-1∧(ch v i).map (tx t)=gD pl 0)∨∃ j,∃ _:j<v.cls.length,cx=(j:Int)∧(ch v i).map (tx t)=(ch v j).map (tx t)++gD pl 0),fun w _=>match w with
  | [.int _ cx,_]=>(cx+1).toNat
  | _=>0,⟨i,none,0,0,[],[],rfl,bZ.nil 1 H,Fr.refl _ _,by simp,by simp,by first | (simp;done) | (simp;omega),.inr ⟨i,hi,rfl,by simp [gD]⟩⟩,?_⟩
 rintro w H1 ⟨cx,a8,l8,c8,G8,pl,rfl,UF,Oz,V3,JG,hlen8,UG⟩ _;have hl8:l8=pl.length:=by have:=UF.len;simpa using this.symm
 refine ⟨_,_,_,_,rfl,?_⟩;rw [ae];refine aD (fun JR=>?_) fun JR=>?_
 ·
  rcases UG with ⟨e,_⟩ | ⟨j,hj,rfl,heq⟩
  ·omega
  rw [bq,ae,a0a (by omega)];obtain ⟨p,a2,l2,c2,G2,rfl,UH,_,_,cc2,JN,_⟩:=ng (hL.fr gz.fr gz.lt Oz (bU.nil_right _)) hj;obtain ⟨p',a2',l2',c2',G2',OG,_,_,_,cc2',VF,_⟩:=ng hL hj;cases OG;refine ⟨⟨by omega,by omega⟩,_,rfl,_,_,_,by rw [a0j];exact cc2,?_⟩;refine bK Jw rfl (by kernel_rfl) UF rfl (by simp [dJ]) (by omega) (by decide) (by decide) fun a' c' G3 H3 g1 g2 g3=>⟨_,_,_,rfl,⟨by omega,by omega⟩,_,rfl,?_⟩;have o3:=Up.fresh Oz g2 V3;have hL3:=hL.fr gz.fr gz.lt o3.1 (bU.nil_right _);obtain ⟨p',a3,l3,c3,G4,OG,_,_,cc1,_⟩:=ng hL3 hj;cases OG;refine ⟨_,by rw [a0j];exact cc1,KO hv hL3 hj ⟨_,rfl,?_⟩⟩;have Sa:(v.cls[j]).own.map (tx t)=(cZ v t j).own:=(jl hj).2.symm;have hsl:Value.slice a2 l2 c2=.slice a2' l2' c2':=by
   have e2:aq H1 ((p.add (j*4)).add 2)=aq H ((p.add (j*4)).add 2):=by
    obtain ⟨pb,po,ps⟩:=p;simp only at UH;subst UH;rw [aB,aB] at cc2' ⊢;exact cM Oz (by simp) (eK cc2')
   rw [cc2,cc2'] at e2;exact Option.some.inj e2
  have UI:Bz H (.slice a2 l2 c2,(cZ v t j).own):=⟨a2',l2',c2',hsl,VF.rd⟩;rcases hv.ks.upI hj with ⟨h0,_,e1⟩ | ⟨k,hk,an,_,_,e1⟩
  ·rw [e1];simp only;refine ⟨⟨-1,a',l8+1,c',G3,pl++[(.slice a2 l2 c2,(cZ v t j).own)],rfl,by simpa using g1,o3.1,o3.2,fun q hq=>?_,by first | (simp;done) | (simp;omega),.inl ⟨rfl,?_⟩⟩,by first | (simp;done) | (simp;omega)⟩
   ·rcases a0T.1 hq with hq | hq
    ·exact JG q hq
    ·simp only [a0A] at hq;rw [hq];exact UI
   ·subst h0;rw [qn,heq,hv.ks.fields0 hj,Sa]
  ·rw [e1];simp only;refine ⟨⟨k,a',l8+1,c',G3,pl++[(.slice a2 l2 c2,(cZ v t j).own)],rfl,by simpa using g1,o3.1,o3.2,fun q hq=>?_,by first | (simp;done) | (simp;omega),.inr ⟨k,hk,rfl,?_⟩⟩,by first | (simp;done) | (simp;omega)⟩
   ·rcases a0T.1 hq with hq | hq
    ·exact JG q hq
    ·simp only [a0A] at hq;rw [hq];exact UI
   ·rw [qn,heq,hv.ks.fieldsS hj an e1,a2m,Sa,a18]
 ·
  have heq:(ch v i).map (tx t)=gD pl 0:=by
   rcases UG with ⟨_,e⟩ | ⟨j,_,e,_⟩
   ·exact e
   ·omega
  have XE:(gD pl 0).length<=3000000:=by rw [←heq,a1p];omega
  have TX:pl.length<=1000:=by omega
  have e0:IntKind.wrap .i64 ((l8:Int)-1)=(pl.length:Int)-1:=by rw [ao (by omega) (by omega)];omega
  refine ⟨fun w H'=>∃(n:Nat) (a3:Option Addr) (l3 c3:Nat) (G3:aS),w=[.slice a3 l3 c3,ac ((n:Int)-1)]∧n<=pl.length∧bZ 1 H' a3 l3 c3 (bC (gD pl n)) G3∧Fr [] H1 H'∧(∀ x∈G3,H1.size<=x),fun w _=>match w with
   | [_,.int _ n]=>(n+1).toNat
   | _=>0,⟨pl.length,none,0,0,[],by rw [e0],a0U _,by rw [AU];exact bZ.nil 1 H1,Fr.refl _ _,by simp⟩,?_⟩
  rintro w H6 ⟨n,a3,l3,c3,G3,rfl,hn,Ji,l7,Sn⟩ _;refine ⟨_,_,_,_,rfl,?_⟩;rw [ae];refine aD (fun a1J=>?_) fun a1J=>?_
  ·have Wb:n-1<pl.length:=by omega
   have en:(n:Int)-1=((n-1:Nat):Int):=by omega
   have hp:=JG _ (a04 Wb);obtain ⟨ap,lp,cp,ep,hrp⟩:=hp;obtain ⟨r,er,_⟩:=zD (pl:=pl) (pl.length-(n-1)) (n-1) (by omega);have es:=qb Wb;rw [show n-1+1=n by omega] at es;have Zp:lp=(pl[n-1]).2.length:=by have:=hrp.1;simpa [bC] using this.symm
   have HS:(gD pl n).length+(pl[n-1]).2.length<=3000000:=by
    rw [er,es] at XE;simp only [a1h] at XE;omega
   have hcellP:∀ {H':au},Fr [] H1 H'->∃ q,a8=some q∧aq H' (q.add ((n-1)*1))=some (.slice ap lp cp):=by
    intro H' s7;have Uv:=(UF.fr s7 (by simp)).rd;cases ha:a8 with
    | none =>
     have:=Uv.2.1 ha;omega
    | some q =>
     refine ⟨q,rfl,?_⟩;rw [Uv.2.2 q ha ((n-1)*1) (by omega)];rw [a0y,a2s,a0Q Wb,←ep];rfl
   refine ⟨fun w H'=>∃(k:Nat) (a4:Option Addr) (l4 c4:Nat) (G4:aS),w=[.slice a4 l4 c4,ac k]∧k<=(pl[n-1]).2.length∧bZ 1 H' a4 l4 c4 (bC (gD pl n++(pl[n-1]).2.take k)) G4∧Fr [] H1 H'∧(∀ x∈G4,H1.size<=x),fun w _=>match w with
    | [_,.int _ k]=>((pl[n-1]).2.length-k).toNat
    | _=>0,⟨0,a3,l3,c3,G3,rfl,a07 _,by simpa using Ji,l7,Sn⟩,?_⟩
   rintro w H7 ⟨k,a4,l4,c4,G4,rfl,hk,Ok,uH,V2⟩ _;have hl4:l4=(gD pl n).length+k:=by
    have:=Ok.len;simp only [bC,a1p,a1h,a1q] at this;omega
   obtain ⟨q,hq,hcq⟩:=hcellP uH;subst hq;rw [en];refine ⟨_,_,_,_,rfl,⟨by omega,by omega⟩,_,rfl,_,_,_,by rw [a0j];exact hcq,?_⟩;rw [ae];refine aD (fun an=>?_) fun an=>?_
   ·obtain ⟨pp,be,rfl,aj⟩:=(hrp.fr' (Oz.trans uH) (by simp)).str (i:=(k:Int)) (by omega) an;simp only [a0j] at aj be;have e1:IntKind.wrap .i64 ((k:Int)+1)=((k+1:Nat):Int):=by rw [ao (by omega) (by omega)];omega
    refine ⟨⟨by omega,by omega⟩,_,rfl,_,_,_,by rw [a0j];exact hcq,⟨by omega,an⟩,_,rfl,_,by rw [a0j,a0y];exact aj,?_⟩;refine bK i7 rfl (by kernel_rfl) Ok rfl (by simp [dJ]) (by omega) (by decide) (by decide) fun a' c' G5 H8 g1 g2 g3=>⟨_,_,_,rfl,?_⟩;have o3:=Up.fresh uH g2 V2;rw [e1];refine ⟨⟨k+1,a',l4+1,c',G5,rfl,by omega,?_,o3.1,o3.2⟩,by first | (simp;done) | (simp;omega)⟩;rw [a1i,a0Q be,←a18,dB];exact g1
   ·have Od:k=(pl[n-1]).2.length:=by omega
    rw [Od,a29,←es] at Ok;have e1:IntKind.wrap .i64 (((n-1:Nat):Int)-1)=((n-1:Nat):Int)-1:=ao (by omega) (by omega);rw [e1];exact ⟨⟨n-1,a4,l4,c4,G4,rfl,by omega,Ok,uH,V2⟩,by first | (simp;done) | (simp;omega)⟩
  ·have:n=0:=by omega
   subst this;rw [←heq] at Ji;exact h _ _ _ G3 H6 Ji (Oz.trans l7) fun x hx=>a0O Oz.1 (Sn x hx)
end
section
variable {H:au}{b:Nat}{F:aS}{s:SP}{t:TB}{v:KV}{Q:QT}
theorem uP (hK:RK H b F s t) (hv:KAllW s t v){o:Int} (h1:∀ i,eR v o=some i->∀ a l c G H',bZ 1 H' a l c (bC ((ch v i).map (tx t))) G->Fr [] H H'->(∀ x∈G,H.size<=x)->Q (.tuple #[.slice a l c,ac 0]) H')
  (h2:eR v o=none->∀ H',Fr [] H H'->Q (.tuple #[.slice none 0 0,ac 130]) H'):ag PP 235 #[QW b,ac o] Q H:=by
 have CO:=hv.ks.shape.many1;apply EG;dsimp only [aC,cq,ah,ac,av,am,bJ,aI];refine pW hK hv.ks fun H1 bw=>⟨_,rfl,?_⟩;unfold jD;cases hp:eR v o with
 | none=>exact h2 hp H1 bw
 | some i =>
  obtain ⟨hi,rfl⟩:=dS hp;rw [bq,ae,a0a (by simp only;omega)];refine Lg (hK.nil bw) hv fun a l c G H2 hL fa hG=>⟨_,_,_,rfl,?_⟩;have e:IntKind.wrap .i64 ((i:Int)+1-1)=(i:Int):=by rw [ao (by omega) (by omega)];omega
  simp only [e];exact wW hv hL hi fun a2 l2 c2 G2 H3 ho l7 SB=>⟨_,_,_,rfl,h1 i hp a2 l2 c2 G2 H3 ho ((bw.trans fa).trans l7) fun x hx=>a0O (bw.trans fa).1 (SB x hx)⟩
end
end Go.Proofs.YtgjfejoohojokaaGreatDoor
namespace Kw
open Go
theorem kS (n m:Int):(0<=n∧Int.tmod n m=n % m∧Int.tdiv n m=n / m)∨(n<0∧Int.tmod n m=-((-n) % m)∧Int.tdiv n m=-((-n) / m)):=by
 rcases a4B n 0 with h | h
 ·refine .inr ⟨h,?_,?_⟩
  ·rw [←a2v (by omega),a4t,a4I]
  ·rw [←a2y (by omega),Int.neg_tdiv,a4I]
 ·exact .inl ⟨h,a2v h,a2y h⟩
def jL (n:Int):Int:=if n % 2147483648 > 1073741823 then n % 2147483648-2147483648 else n % 2147483648
theorem qw (x:Int):∃ k:Int,IntKind.wrap .i64 x=x+k*18446744073709551616∧-9223372036854775808<=IntKind.wrap .i64 x∧IntKind.wrap .i64 x<=9223372036854775807:=by
 simp only [IntKind.wrap,IntKind.bits,IntKind.signed];simp;split
 ·refine ⟨⟨-(x / 18446744073709551616)-1,?_⟩,?_⟩ <;> omega
 ·refine ⟨⟨-(x / 18446744073709551616),?_⟩,?_⟩ <;> omega
theorem ji (x:Int):jL (IntKind.wrap .i64 x)=jL x:=by
 obtain ⟨k,h,_⟩:=qw x;unfold jL
 have:IntKind.wrap .i64 x % 2147483648=x % 2147483648:=by omega
 rw [this]
theorem Ir (x:Int):jL (x % 2147483648)=jL x:=by unfold jL;rw [Int.emod_emod]
theorem Ay (n:Int):iL .i64 (fu .i64 n 33) 33=jL n:=by
 have e:fu .i64 n 33=IntKind.wrap .i64 (n*8589934592):=by
  unfold fu
  have:min (Int.toNat (33:Int)) (IntKind.bits .i64)=33:=by decide
  rw [this];rfl
 obtain ⟨k,h,h1,h2⟩:=qw (n*8589934592);have e2:=lW (IntKind.wrap .i64 (n*8589934592)) 33 (by decide);rw [e];have e3:iL .i64 (IntKind.wrap .i64 (n*8589934592)) 33=IntKind.wrap .i64 (n*8589934592) / 8589934592:=e2;rw [e3];unfold jL;split <;> omega
theorem CF {n:Int} (h0:-1073741824<=n) (h1:n<=1073741823):jL n=n:=by unfold jL;split <;> omega
theorem Nm (n:Int):-1073741824<=jL n∧jL n<=1073741823:=by unfold jL;split <;> omega
theorem La (n:Int):jL (2*jL n)=jL (2*n):=by
 have e:(2*jL n) % 2147483648=(2*n) % 2147483648:=by unfold jL;split <;> omega
 unfold jL at *;rw [e]
def jr (one both:Bool) (u v:Int):Int:=if (u+v=1∧one=true)∨(u+v=2∧both=true) then 1 else 0
def fV (one both:Bool):Nat->Int->Int->Int
 | 0,_,_=>0
 | n+1,x,y=>jr one both (x % 2) (y % 2)+2*fV one both n (x / 2) (y / 2)
theorem nc {one both:Bool}{f:Nat->Nat->Nat} (h2:∀ x y,f x y / 2=f (x / 2) (y / 2)) (h1:∀ x y,((f x y % 2:Nat):Int)=jr one both ((x % 2:Nat):Int) ((y % 2:Nat):Int)) (h0:f 0 0=0) :
  ∀ (n x y:Nat),x<2 ^ n->y<2 ^ n->fV one both n (x:Int) (y:Int)=((f x y:Nat):Int)
 | 0,x,y,hx,hy=>by
  have:x=0:=by simpa using hx
  have:y=0:=by simpa using hy
  subst_vars
  rw [h0];rfl
 | n+1,x,y,hx,hy=>by
  rw [a3H] at hx hy;unfold fV;have ex:((x:Int) / 2)=((x / 2:Nat):Int):=by omega
  have ey:((y:Int) / 2)=((y / 2:Nat):Int):=by omega
  have mx:((x:Int) % 2)=((x % 2:Nat):Int):=by omega
  have my:((y:Int) % 2)=((y % 2:Nat):Int):=by omega
  rw [ex,ey,mx,my,←h1,nc h2 h1 h0 n (x / 2) (y / 2) (by omega) (by omega),←h2];omega
theorem g9 (x:Nat):x % 2=0∨x % 2=1:=by omega
theorem BG (x y:Nat):(((x &&& y) % 2:Nat):Int)=jr false true ((x % 2:Nat):Int) ((y % 2:Nat):Int):=by
 have h:=Nat.and_mod_two_pow (a:=x) (b:=y) (n:=1);rw [Nat.pow_one] at h;rw [h];rcases g9 x with h1 | h1 <;> rcases g9 y with h2 | h2 <;> rw [h1,h2] <;> decide
theorem Hi (x y:Nat):(((x ||| y) % 2:Nat):Int)=jr true true ((x % 2:Nat):Int) ((y % 2:Nat):Int):=by
 have h:=Nat.or_mod_two_pow (a:=x) (b:=y) (n:=1);rw [Nat.pow_one] at h;rw [h];rcases g9 x with h1 | h1 <;> rcases g9 y with h2 | h2 <;> rw [h1,h2] <;> decide
theorem CC (x y:Nat):(((x ^^^ y) % 2:Nat):Int)=jr true false ((x % 2:Nat):Int) ((y % 2:Nat):Int):=by
 have h:=Nat.xor_mod_two_pow (a:=x) (b:=y) (n:=1);rw [Nat.pow_one] at h;rw [h];rcases g9 x with h1 | h1 <;> rcases g9 y with h2 | h2 <;> rw [h1,h2] <;> decide
theorem xK (x y:Nat) (hx:x<2147483648) (hy:y<2147483648):fV false true 31 (x:Int) (y:Int)=((x &&& y:Nat):Int) :=
 nc (f:=fun a b=>a &&& b) (fun _ _=>Nat.and_div_two) BG rfl 31 x y hx hy
theorem AX (x y:Nat) (hx:x<2147483648) (hy:y<2147483648):fV true true 31 (x:Int) (y:Int)=((x ||| y:Nat):Int) :=
 nc (f:=fun a b=>a ||| b) (fun _ _=>Nat.or_div_two) Hi rfl 31 x y hx hy
theorem xQ (x y:Nat) (hx:x<2147483648) (hy:y<2147483648):fV true false 31 (x:Int) (y:Int)=((x ^^^ y:Nat):Int) :=
 nc (f:=fun a b=>a ^^^ b) (fun _ _=>Nat.xor_div_two) CC rfl 31 x y hx hy
theorem lK (n:Int):(n % 2147483648)=(((BitVec.ofInt 64 n).toNat % 2 ^ 31:Nat):Int):=by
 have:=iw n;have XF:(2:Nat) ^ 31=2147483648:=by decide
 rw [XF];omega
theorem oQ (n:Int):(BitVec.ofInt 64 n).toNat % 2 ^ 31<2147483648:=a4r _ (by decide)
theorem tJ (x:Nat):jL (x:Int)=jL ((x % 2 ^ 31:Nat):Int):=by
 have XF:(2:Nat) ^ 31=2147483648:=by decide
 rw [XF,←Ir]
 congr 1
theorem BP (n m:Int):jL (nS .i64 n m)=jL (fV false true 31 (n % 2147483648) (m % 2147483648)):=by
 rw [lK n,lK m,xK _ _ (oQ n) (oQ m),←Nat.and_mod_two_pow,←tJ];unfold nS;show jL (IntKind.wrap .i64 (((BitVec.ofInt 64 n &&& BitVec.ofInt 64 m).toNat:Nat):Int))=_;rw [a4s,ji]
theorem EW (n m:Int):jL (wJ .i64 n m)=jL (fV true true 31 (n % 2147483648) (m % 2147483648)):=by
 rw [lK n,lK m,AX _ _ (oQ n) (oQ m),←Nat.or_mod_two_pow,←tJ];unfold wJ;show jL (IntKind.wrap .i64 (((BitVec.ofInt 64 n ||| BitVec.ofInt 64 m).toNat:Nat):Int))=_;rw [BitVec.toNat_or,ji]
theorem B5 (n m:Int):jL (Ln .i64 n m)=jL (fV true false 31 (n % 2147483648) (m % 2147483648)):=by
 rw [lK n,lK m,xQ _ _ (oQ n) (oQ m),←Nat.xor_mod_two_pow,←tJ];unfold Ln;show jL (IntKind.wrap .i64 (((BitVec.ofInt 64 n ^^^ BitVec.ofInt 64 m).toNat:Nat):Int))=_;rw [BitVec.toNat_xor,ji]
theorem Im (a:Int):∀ k:Nat,jL (2*jL (a*((2 ^ k:Nat):Int)))=jL (a*((2 ^ (k+1):Nat):Int)):=fun k=>by
 rw [La]
 congr 1
 rw [a3H]
 push_cast
 rw [a3i 2,Int.mul_assoc]
theorem Cb (a:Int) (k:Nat):a / ((2 ^ k:Nat):Int) / 2=a / ((2 ^ (k+1):Nat):Int):=by
 rw [Int.ediv_ediv_of_nonneg (by exact_mod_cast a07 _),a3H]
 push_cast
 rfl
theorem zC {u:Nat} (h:u<10):Lib.decDigits u=[UInt8.ofNat (48+u)]:=by rw [Lib.decDigits,dif_pos h]
theorem K5 {u:Nat} (h:¬ u<10):Lib.decDigits u=Lib.decDigits (u / 10)++[UInt8.ofNat (48+u % 10)]:=by rw [Lib.decDigits,dif_neg h]
end Kw
namespace Go.Proofs.YtgjfejoohojokaaGreatDoor
open Kw
section
attribute [local irreducible] bL cy cH iF fD iG gO gt iJ pu iy dp dA
theorem iX {w:Int} (h:dL w):Ej w:=by
 unfold dL at h
 have:=bE w;exact ⟨by omega,by omega⟩
theorem jh {w:Int} (h:dL w):gg w=d7 w:=by
 unfold dL at h
 have:=bE w;unfold gg d7;split <;> split <;> omega
theorem Rf {s:SP} (hw:WFS s):aT s.h.objs 0=none:=by
 cases h:aT s.h.objs 0 with
 | none=>rfl
 | some o =>
  have h1:=aR h;have h2:=(hw.h.objs.good o h1.1).oop1;omega
theorem wB {s:SP} (hw:WFS s) (w:Int):dl s.h w=((s.h.size (d7 w)).1,(s.h.size (d7 w)).2.1):=by
 unfold dl d7;split
 ·rfl
 ·unfold RH.size;rw [Rf hw]
abbrev dv (b:Nat) (r x y:Int):Value:=.agg #[QW b,ac r,ac x,ac y]
abbrev dc (b:Nat) (r x y:Int):Array Value:=#[QW b,ac r,ac x,ac y]
section
variable {H:au}{b:Nat}{F:aS}{s:SP}{t:TB}{v:KV}{Q:QT}{r x y:Int}
theorem oT (hK:RK H b F s t) (hv:KAllW s t v){w:Int} (h:Q (ac (cK s.h w)) H):ag PP 128 #[QW b,ac w] Q H:=by
 apply FU;dsimp only [ah,ak,ac,am];refine L4 hK hv ⟨_,_,rfl,?_⟩;unfold cK at h;rw [bn,ae];refine aD (fun h0=>?_) fun h0=>?_
 ·rw [a0b h0] at h;exact h
 ·rw [a0a h0] at h;exact h
theorem yF (hK:RK H b F s t) (hv:KAllW s t v){w k:Int} (h:∀ H',Fr [] H H'->Q (.bool (iR v k (cK s.h w))) H'):ag PP 129 #[QW b,ac w,ac k] Q H:=by
 apply Kd;dsimp only [aP,aC,ah,ak,ac,bX,bm,am];refine oT hK hv ⟨_,rfl,?_⟩;have RM:jB v (cK s.h w)<v.cls.length+3:=by
  unfold jB;split
  ·omega
  ·split
   ·rename_i i hi
    have:=(dS hi).1;omega
   ·omega
 refine ⟨fun w' H'=>∃(o:Int) (n:Nat),w'=[ac o]∧Fr [] H H'∧jB v o<n∧nD v k n o=iR v k (cK s.h w),fun w' _=>match w' with
  | [.int _ o]=>jB v o
  | _=>0,⟨_,_,rfl,Fr.refl _ _,RM,rfl⟩,?_⟩
 rintro w' H2 ⟨o,n,rfl,f2,hn,hk⟩ _;refine ⟨_,rfl,?_⟩;obtain ⟨n,rfl⟩:∃ m,n=m+1:=⟨n-1,by omega⟩;unfold nD at hk;have hq:=h _ f2;rw [←hk] at hq;rw [bn,ae];refine aD (fun h1=>?_) fun h1=>?_
 ·rw [a0a h1] at hq;rw [bq,ae];refine aD (fun h2=>?_) fun h2=>?_
  ·rw [a0b h2] at hq;exact hq
  rw [a0a h2] at hq;rw [a0a h1,a0a h2] at hk;refine Ex (hK.nil f2) hv fun H3 f3=>?_;cases hp:eR v o with
  | none =>
   rw [hp] at hk;refine ⟨_,_,rfl,?_⟩;have OE:=h _ (f2.trans f3);rw [←hk] at OE;exact OE
  | some i =>
   rw [hp] at hk;refine ⟨_,_,rfl,?_⟩;have hr:=yo hv.ks h1 hp;exact ⟨⟨_,n,rfl,f2.trans f3,by omega,hk⟩,hr⟩
 ·have UT:=a0v h1;rw [a0b UT] at hq;exact hq
theorem ub (hK:RK H b F s t) (hv:KAllW s t v){w:Int} (h:∀ H',Fr [] H H'->Q (.bool (fX v (cK s.h w))) H'):ag PP 319 #[QW b,ac w] Q H:=by
 apply Ge;dsimp only [aP,aC,ah,ak,bP,ac,am];refine oT hK hv ⟨_,rfl,?_⟩;unfold fX at h;rw [bq,ae];refine aD (fun h4=>?_) fun h4=>wG hK hv fun H2 f2=>?_
 ·have:=h _ (Fr.refl _ _);rw [a00 h4] at this;exact this
 ·have hq:=h _ f2;rw [a09 h4] at hq;cases hp:eR v (cK s.h w) with
  | none=>rw [hp] at hq;exact ⟨_,_,rfl,hq⟩
  | some i=>rw [hp] at hq;exact ⟨_,_,rfl,hq⟩
theorem jy (hK:RK H b F s t){w:Int} (hw:dL w) (h:Q (ac (dl s.h w).1) H):ag PP 250 #[QW b,ac w] Q H:=by
 obtain ⟨sb,hb,F1,hc,c0,hR,_⟩:=hK.hp;rw [wB hK.wfs] at h;apply IX;dsimp only [aC,bW,aF,ac,aE,am];refine ⟨_,rfl,_,hc,_,rfl,_,c0,cR (iX hw) ⟨_,rfl,⟨⟨c0,trivial⟩,⟨hc,trivial⟩,trivial⟩,?_⟩⟩;rw [jh hw];exact lX hR ⟨_,_,_,rfl,trivial,h⟩
theorem sS (hK:RK H b F s t){w i:Int} (hw:dL w) (h:Q (ac (eU s.h w i)) H):ag PP 138 #[QW b,ac w,ac i] Q H:=by
 obtain ⟨sb,hb,F1,hc,c0,hR,_⟩:=hK.hp;apply Ff;dsimp only [aC,ak,aF,ac,aE,am];refine ⟨_,rfl,_,hc,_,rfl,_,c0,cR (iX hw) ⟨_,rfl,⟨⟨c0,trivial⟩,⟨hc,trivial⟩,trivial⟩,?_⟩⟩;rw [jh hw];exact yn hR ⟨_,_,rfl,trivial,h⟩
theorem cz {z:Bool} (h:Q (.tuple #[ac (tw z),ac 0]) H):ag PP 252 #[.bool z] Q H:=by
 apply Gx;dsimp only [aA,aC,ah,ac];cases z
 ·rw [a0f];exact ce (by decide) ⟨_,rfl,h⟩
 ·rw [a0P];exact ce (by decide) ⟨_,rfl,h⟩
theorem dd {w:Int} (h:Q (.bool (decide (aU w=1))) H):ag PP 251 #[ac w] Q H:=by
 apply DV;dsimp only [aP,aC,ac];refine gn ⟨_,rfl,?_⟩;rw [bq];exact h
theorem qZ {w:Int} (h:Q (.bool (decide (aU w=2))) H):ag PP 263 #[ac w] Q H:=by
 apply IQ;dsimp only [aP,aC,ac];refine gn ⟨_,rfl,?_⟩;rw [bq];exact h
theorem cn {w:Int} (h:Q (ac (cG w)) H):ag PP 256 #[ac w] Q H:=by
 apply HE;dsimp only [ak,ac];apply HI;dsimp only [aA,aC,ah,ac,aI];refine gn ⟨_,rfl,?_⟩;unfold cG at h;rw [bn,ae];refine aD (fun h1=>?_) fun h1=>?_
 ·rw [a0a h1] at h;exact ⟨_,_,rfl,h⟩
 ·have UT:aU w=1:=a0v h1;rw [a0b UT] at h;have hc:=bE w;have e:Int.tdiv (w-1) 2=w / 2:=by have:=kS (w-1) 2;omega
  rw [ao (n:=w-1) (by omega) (by omega),e]
  first
   | exact ⟨_,_,rfl,h⟩
   | (rw [ao (by omega) (by omega)];exact ⟨_,_,rfl,h⟩)
theorem ql {n:Int} (h:∀ H',Fr [] H H'->Q (.tuple #[ac (bG n x).1,ac (bG n x).2]) H'):ag PP 264 #[dv b r x y,ac n] Q H:=by
 apply DM;dsimp only [aN,aA,bk,aC,ah,bP,aX,ay,ac,am,aJ,ax,aI];have f:=Fr.push [] H (.cells (dc b r x y) 191);have hb:=bI.new H (dc b r x y) 191;have hq:=h _ f;unfold bG at hq;refine ⟨_,hb.cell 2,dd ⟨_,rfl,?_⟩⟩;by_cases h1:aU x=1
 ·rw [a00 h1,a0p,a0f];rw [a0a (fun e=>e h1)] at hq;refine ⟨_,hb.cell 2,cn ⟨_,rfl,?_⟩⟩;have e:cG x=x / 2:=by unfold cG;rw [a0b h1]
  rw [e,ae];refine aD (fun h2=>by rw [a0b (.inl h2)] at hq;exact hq) fun h2=>?_;rw [ae];refine aD (fun h3=>by rw [a0b (.inr h3)] at hq;exact hq) fun h3=>?_;rw [a0a (by omega)] at hq
  have:=bE x;rw [ao (by omega) (by omega)];exact hq
 ·rw [a09 h1,a0C,a0P];rw [a0b h1] at hq;exact hq
theorem oc (hK:RK H b F s t) (hv:KAllW s t v) (hw:dL r) (h:∀ H',Fr [] H H'->Q (ac (cT s.h v r)) H'):ag PP 253 #[dv b r x y] Q H:=by
 apply GL;dsimp only [aL,aN,bk,aC,ah,ay,aF,ac,am,aJ,ax];have f:=Fr.push [] H (.cells (dc b r x y) 191);have hb:=bI.new H (dc b r x y) 191;refine ⟨_,hb.cell 0,_,hb.cell 1,ub (hK.nil f) hv fun H1 f1=>⟨_,rfl,?_⟩⟩;have f01:=f.trans f1;have cj:=hb.fr f1 (by simp);have hq:=h _ f01;unfold cT at hq;cases hi:fX v (cK s.h r) with
 | false=>rw [hi] at hq;exact hq
 | true =>
  rw [hi] at hq;exact ⟨_,cj.cell 0,_,cj.cell 1,jy (hK.nil f01) hw ⟨_,rfl,hq⟩⟩
theorem zT (hK:RK H b F s t) (hw:dL r){k:Int} (h:∀ H',Fr [] H H'->Q (.bool (gd s.h k r)) H'):ag PP 130 #[dv b r x y,ac k] Q H:=by
 apply Ea;dsimp only [aL,aN,aP,bk,aC,ah,ay,aF,ac,am,aJ,ax];have f:=Fr.push [] H (.cells (dc b r x y) 191);have hb:=bI.new H (dc b r x y) 191;have hq:=h _ f;unfold gd at hq;rw [bq,ae];refine aD (fun h1=>?_) fun h1=>?_
 ·rw [a0b h1] at hq;refine ⟨_,hb.cell 0,_,hb.cell 1,jy (hK.nil f) hw ⟨_,rfl,?_⟩⟩;rw [bq];exact hq
 rw [a0a h1] at hq;rw [bq,ae];refine aD (fun h2=>?_) fun h2=>?_
 ·rw [a0b h2] at hq;refine ⟨_,hb.cell 0,_,hb.cell 1,jy (hK.nil f) hw ⟨_,rfl,?_⟩⟩;rw [bq,ae];refine aD (fun h3=>?_) fun h3=>?_
  ·rw [a00 h3,a4m] at hq;exact ⟨_,hb.cell 0,_,hb.cell 1,sS (hK.nil f) hw ⟨_,rfl,dd ⟨_,rfl,hq⟩⟩⟩
  ·rw [a09 h3,a3I] at hq;exact hq
 rw [a0a h2] at hq;rw [bq,ae];refine aD (fun h3=>?_) fun h3=>?_
 ·rw [a0b h3] at hq;refine ⟨_,hb.cell 0,_,hb.cell 1,jy (hK.nil f) hw ⟨_,rfl,?_⟩⟩;rw [bq];exact hq
 ·rw [a0a h3] at hq;exact hq
end
end
end Go.Proofs.YtgjfejoohojokaaGreatDoor
namespace Kw
open Go
def qF (xs:List Int):ByteArray:=⟨(xs.map fun x=>UInt8.ofNat x.toNat).toArray⟩
theorem xg (xs:List Int):∀ s:ByteArray,xs.foldl (fun r n=>r.push (UInt8.ofNat n.toNat)) s=s++qF xs:=by
 induction xs with
 | nil=>intro s;refine a3q ?_;simp [qF]
 | cons x xs ih =>
  intro s;rw [a3D,ih];refine a3q ?_;simp [qF]
theorem xA {P:Program}{H:au}{f:Value->ByteArray->Sem (ForInStep ByteArray)}
  (hf:∀ (n:Int) (r:ByteArray) (Q:ForInStep ByteArray->au->Prop),Q (.yield (r.push (UInt8.ofNat n.toNat))) H->cB P (f (.int .u8 n) r) Q H) :
  ∀ (xs:List Int) (s:ByteArray) (Q:ByteArray->au->Prop),Q (xs.foldl (fun r n=>r.push (UInt8.ofNat n.toNat)) s) H->cB P (forIn (xs.map (Value.int .u8)) s f) Q H:=by
 intro xs
 induction xs with
 | nil =>
  intro s Q h;simp only [a26,List.forIn_nil,pure,cB];exact h
 | cons x xs ih =>
  intro s Q h;simp only [a2k,List.forIn_cons];exact aH (hf x s _ (ih _ Q h))
theorem BM {P:Program}{src dst e:TypeId}{a:Option Addr}{l c:Nat}{xs:List Int}{Q:Value->au->Prop}{H:au} (h1:P.underlying src=some (.slice e)) (h2:P.underlying dst=some .string) (h3:P.underlying e=some (.int .u8))
  (hr:Rd 1 H a l (xs.map (Value.int .u8))) (h:Q (.string (qF xs)) H):cB P (convert src dst (.slice a l c)) Q H:=by
 refine aH (bF h1 (aH (bF h2 (aH (bF h3 ?_)))));show cB P (Conv.bytesToString (.slice a l c)) Q H;unfold Conv.bytesToString;cases a with
 | none =>
  have:xs=[]:=by
   have h0:=hr.2.1 rfl
   have:=hr.1;rw [h0] at this;simpa using this
  subst this;exact h
 | some p =>
  refine aH ?_;have hl:l=xs.length:=by have:=hr.1;simpa using this.symm
  subst hl;show cB P (loadCellsFrom p 0 xs.length #[]) _ H;have hlen:xs.length=(xs.map (Value.int .u8)).length:=by simp
  rw [hlen];refine gI (xs.map (Value.int .u8)) 0 #[] (fun j hj=>?_) ?_
  ·have:=hr.2.2 p rfl j (by simpa using hj);rw [a0K,this]
  ·rw [List.append_toArray,a35,List.forIn_toArray];refine aH ?_;refine xA (fun n r Q' hq=>?_) xs _ _ ?_
   ·exact hq
   rw [xg];have e:ByteArray.empty++qF xs=qF xs:=by refine a3q ?_;simp
   rw [e];exact h
end Kw
namespace Go.Proofs.YtgjfejoohojokaaGreatDoor
open Kw
section
attribute [local irreducible] bL cy cH iF fD iG gO gt iJ pu iy dp dA
abbrev NA (p:Int × Int):Value:=.tuple #[ac p.1,ac p.2]
theorem uK:∀ (xs:List Int){s:SP}{w:Int}{i:Int}{o:RO},aT s.h.objs (d7 w)=some o->0<=i->i+xs.length<=o.slots.length->(∀ x∈xs,fv o.fmt x)->s.layE w i xs=(0,{ s with h:=s.h.lay (d7 w) i xs })
 | [],s,_,_,_,_,_,_,_=>rfl
 | x :: xs,s,w,i,o,ho,h0,hl,hm=>by
  have CO:=hm x (by simp);have J9:i<o.slots.length:=by simp only [a1b] at hl;omega
  have e:s.h.put (d7 w) i x=(0,{ s.h with objs:=gX s.h.objs (d7 w) (d8 i x) }):=by
   unfold RH.put;rw [ho];simp only;rw [a0a (by omega),a0a (fun e=>e CO)]
  have xB:aT (s.h.put (d7 w) i x).2.objs (d7 w)=some (d8 i x o):=by
   rw [e];show aT (gX s.h.objs (d7 w) (d8 i x)) (d7 w)=_;rw [dH (f:=d8 i x) fun _=>rfl,ho]
   have:=(aR ho).2;simp [this]
  unfold SP.layE SP.putW;rw [a0a (by rw [e];simp)];have ih:=uK xs (s:={ s with h:=(s.h.put (d7 w) i x).2 }) (w:=w) (i:=i+1) (o:=d8 i x o) xB (by omega) (by simp only [d8,a33,a1b] at hl ⊢;omega) fun y hy=>hm y (by simp [hy]);exact ih
section
variable {H:au}{b:Nat}{F:aS}{s:SP}{t:TB}{v:KV}{Q:QT}{r x y:Int}
theorem wQ (hK:RK H b F s t){w i z:Int} (hw:dL w){R:Int->au->Prop} (h:∀ H' F',RK H' b F' (s.putW w i z).2 t->Up F H F' H'->Q (ac (s.putW w i z).1) H') :
  ∃ sb hb,aq H ⟨b,0,none⟩=some (QW sb)∧aq H ⟨sb,0,none⟩=some (QW hb)∧gg w=d7 w∧ag PP 98 #[QW hb,ac (d7 w),ac i,ac z] Q H:=by
 obtain ⟨sb,hb,F1,hc,c0,hR,ff,hn,s6⟩:=hK.hp;refine ⟨sb,hb,hc,c0,jh hw,tZ hR fun H' RC f'=>?_⟩;obtain ⟨F',w8,u⟩:=s6 H' F1 _ RC ⟨f',fun _ h=>.inl h⟩;exact h H' F' w8 u
theorem yE (hK:RK H b F s t) (hw:dL r){n:Int}{put:Bool} (Jj:put=true->(bG n x).2=0->(s.putW r (bG n x).1 y).1=0)
  (h:∀ H' F',RK H' b F' (dP s t r (if put then [x,y] else [x]) n).2.1 t->Up F H F' H'->Q (NA (dP s t r (if put then [x,y] else [x]) n).1) H'):ag PP 254 #[dv b r x y,ac n,.bool put] Q H:=by
 apply KF;dsimp only [aL,aN,aA,aC,ah,ak,ay,aF,aZ,ac,aE,am,aJ,ax];have f:=Fr.push [] H (.cells (dc b r x y) 191);have hb:=bI.new H (dc b r x y) 191;have hnF:H.size∉F:=fun hm=>by have:=hK.lt _ hm;omega
 refine ⟨_,hb.cell 0,_,hb.cell 1,_,hb.cell 2,_,hb.cell 3,ql fun H1 f1=>⟨_,_,rfl,?_⟩⟩;have f01:=f.trans f1;have cj:=hb.fr f1 (by simp);rw [bn,ae];refine aD (fun h0=>?_) fun h0=>?_
 ·have e:dP s t r (if put then [x,y] else [x]) n=((0,(bG n x).2),s,t):=by
   cases put <;> simp [dP,h0]
  rw [e] at h;exact h _ _ (hK.nil f01) (Up.of_nil f01)
 have TU:(bG n x).2=0:=a0v h0;cases put with
 | false =>
  have e:dP s t r (if false then [x,y] else [x]) n=((eU s.h r (bG n x).1,0),s,t):=by
   simp [dP,TU]
  rw [e] at h;rw [a0f];exact ⟨_,cj.cell 0,_,cj.cell 1,sS (hK.nil f01) hw ⟨_,rfl,h _ _ (hK.nil f01) (Up.of_nil f01)⟩⟩
 | true =>
  have e:dP s t r (if true then [x,y] else [x]) n=((y,(s.putW r (bG n x).1 y).1),(s.putW r (bG n x).1 y).2,t):=by
   simp [dP,TU]
  rw [e,Jj rfl TU] at h;rw [a0P];have s5:=hK.nil f01;obtain ⟨sb,hp,hc,c0,eo,O7⟩:=wQ (w:=r) (i:=(bG n x).1) (z:=y) s5 hw (R:=fun _ _=>True) (Q:=fun v23 H3=>∃ n24:Int,v23=ac n24∧True∧∃ n25:Int,aq H3 ((⟨H.size,0,none⟩:Addr).add 3)=some (ac n25)∧Q (.tuple #[ac n25,ac 0]) H3) fun H' F' w8 u=>by
   have k8:=cj.fr u.1 hnF;exact ⟨_,rfl,trivial,_,k8.cell 3,h H' F' w8 (eZ f01 u)⟩
  refine ⟨_,cj.cell 0,_,rfl,_,hc,_,rfl,_,c0,_,cj.cell 1,_,cj.cell 3,cR (iX hw) ⟨_,rfl,⟨⟨cj.cell 3,trivial⟩,⟨c0,trivial⟩,⟨hc,trivial⟩,⟨cj.cell 0,trivial⟩,trivial⟩,?_⟩⟩;rw [eo];exact O7
theorem yx (hK:RK H b F s t) (hv:KAllW s t v){k fmt:Int} (hk:1<=k∧k<=65536){a6:Option Addr}{l6 c6:Nat}{xs:List Int} (hx:Rd 1 H a6 l6 (az xs)) (ho:ou H a6 l6 F) (hl:l6<=1000000000) (hm:∀ w∈xs,fv fmt w)
  (h:∀ H' F',RK H' b F' (s.makeP k fmt xs).2 t->Up F H F' H'->Q (NA (s.makeP k fmt xs).1) H'):ag PP 320 #[QW b,ac k,ac fmt,.slice a6 l6 c6] Q H:=by
 have hlen:l6=xs.length:=by have:=hx.1;simpa [az] using this.symm
 apply Gy;dsimp only [aA,aC,ah,ak,aX,ay,aF,bc,ac,bf,bX,bm,aE,am,aI];obtain ⟨sb,F1,hc,hS,ff,I2,s6⟩:=hK.sp;refine ⟨_,rfl,_,hc,ce ⟨by omega,by omega⟩ ⟨_,rfl,⟨⟨hc,trivial⟩,trivial⟩,oP hS fun H2 F2 J2 u2=>⟨_,_,rfl,trivial,?_⟩⟩⟩;obtain ⟨F',JP,u⟩:=s6 H2 F2 _ J2 u2;obtain ⟨A,hv2⟩:=yK hv (c:=4*k) (fM hk.1 hk.2) (l6:Int) fmt;unfold SP.makeP at h;rw [←hlen] at h;generalize s.alloc (4*k) (l6:Int) fmt=Z at JP h A hv2 ⊢;rw [bn,ae];refine aD (fun he=>?_) fun he=>?_
 ·simp only [a0b he] at h;exact h _ _ JP u
 simp only [a0a he] at h;have he0:Z.1.2=0:=a0v he;obtain ⟨o,e1,o1,o2,OQ,_⟩:=A.good he0;obtain ⟨ob',IN,JN,Ji,Ok⟩:=dg.1 OQ;have eoop:d7 Z.1.1=o:=by rw [e1];unfold d7;rw [a0b (fM o1 o2)];omega
 have OB:dL Z.1.1:=by rw [e1];exact dN o1 o2
 have D4:=uK xs (s:=Z.2) (w:=Z.1.1) (i:=0) (o:=ob') (by rw [eoop];exact IN) (a1F _) (by rw [Ok];simp;omega) (fun w hw=>by rw [Ji];exact hm w hw);rw [D4] at h;simp only [if_true] at h;obtain ⟨L,eL⟩:∃ L,L=Z.2.h.lay (d7 Z.1.1) 0 xs:=⟨_,rfl⟩;rw [←eL] at h;have At:=ho.rd u hx;have VF:=ho.up u;refine ⟨fun w H'=>∃(i:Nat) (hi:RH) (F3:aS),w=[ac i]∧i<=l6∧RK H' b F3 { Z.2 with h:=hi } t∧Up F H F3 H'∧Rd 1 H' a6 l6 (az xs)∧ou H' a6 l6 F3∧hi.lay (d7 Z.1.1) i (xs.drop i)=L,fun w _=>match w with
  | [.int _ i]=>((l6:Int)-i).toNat
  | _=>0,⟨0,Z.2.h,_,rfl,a07 _,JP,u,At,VF,eL.symm⟩,?_⟩
 rintro w H4 ⟨i,hi,F3,rfl,ui,J4,u4,Ur,T3,hL⟩ _;refine ⟨_,rfl,fZ (fun an=>?_) fun JR=>?_⟩
 ·have T4:i<xs.length:=by omega
  obtain ⟨q,Jf,AT,OE⟩:=Ur.int (i:=(i:Int)) (by omega) (by omega);simp only [a0j] at AT;have e1':IntKind.wrap .i64 ((i:Int)+1)=((i+1:Nat):Int):=by rw [ao (by omega) (by omega)];omega
  have hd:xs.drop i=xs.getD i 0 :: xs.drop (i+1):=by
   rw [a1S T4];simp [T4]
  rw [hd] at hL;unfold RH.lay at hL;obtain ⟨sb4,hp4,Rr,c04,eo4,O7⟩:=wQ (w:=Z.1.1) (i:=(i:Int)) (z:=xs.getD i 0) J4 OB (R:=fun _ _=>True) (Q:=fun v23 H5=>∃ n24:Int,v23=ac n24∧True∧(∃(i2:Nat) (Sv:RH) (F3:aS),[Value.int .i64 ((i+1:Nat):Int)]=[ac i2]∧i2<=l6∧RK H5 b F3 { Z.2 with h:=Sv } t∧Up F H F3 H5∧Rd 1 H5 a6 l6 (az xs)∧ou H5 a6 l6 F3∧Sv.lay (d7 Z.1.1) i2 (xs.drop i2)=L)∧((l6:Int)-((i+1:Nat):Int)).toNat<((l6:Int)-(i:Int)).toNat) fun H5 F5 Rs u5 =>
   ⟨_,rfl,trivial,⟨i+1,_,F5,rfl,by omega,Rs,u4.trans u5,T3.rd u5 Ur,T3.up u5,hL⟩,by omega⟩
  refine ⟨_,rfl,_,Rr,_,rfl,_,c04,⟨by omega,an⟩,q,Jf,_,by rw [a0j,a0y];exact AT,cR (iX OB) ⟨_,rfl,⟨⟨by rw [a0j,a0y];exact AT,trivial⟩,⟨c04,trivial⟩,⟨Rr,trivial⟩,trivial⟩,?_⟩⟩;rw [eo4,e1'];exact O7
 ·have T4:i=l6:=by omega
  subst T4;rw [List.drop_of_length_le (by omega)] at hL;unfold RH.lay at hL;rw [hL] at J4;exact h _ _ J4 u4
theorem sI (hK:RK H b F s t){n:Int} (hn:0<=n∧n<4096) (h:Q (.string (nQ t n)) H):ag PP 262 #[QW b,ac (4*n+2)] Q H:=by
 have O8:aU (4*n+2)=2:=by
  unfold aU;rw [a0a (by omega),a0b (by omega)]
 apply ze;dsimp only [aL,bk,aC,ah,ak,eb,aX,aF,ac,cL,av,bm,aE,am,aJ,bM,A9,aO,ax,aI];refine qZ ⟨_,rfl,?_⟩;rw [a00 O8,a0P];apply K6;dsimp only [aA,aC,ah,ac,aI];refine gn ⟨_,rfl,?_⟩;rw [O8];simp only [show ((2:Int) != 2)=false from rfl,a0f];have e:Int.tdiv (4*n+2-2) 4=n:=by have:=kS (4*n+2-2) 4;omega
 rw [ao (n:=4*n+2-2) (by omega) (by omega),e,ao (by omega) (by omega)];obtain ⟨tb,F2,hc,hT,_⟩:=hK.tb;refine ⟨_,_,rfl,_,rfl,_,hc,zg hT ?_⟩;obtain ⟨e,he⟩:=rq t n;rw [he];exact ⟨_,_,rfl,h⟩
theorem vQ (y:ByteArray):qF (bN y)=y:=by
 refine a3q ?_;show ((bN y).map fun z=>UInt8.ofNat z.toNat).toArray=y.data;unfold bN;rw [a3n]
 have:(fun z:Int=>UInt8.ofNat z.toNat) ∘ (fun u:UInt8=>(u.toNat:Int))=id:=by
  funext u
  simp
 rw [this];simp
theorem nG (hK:RK H b F s t){k:Int}{z:ByteArray} (hs:mR s.h k (bN z)) (k1:1<=k) (k2:k<=65536) (hz:z.size<=100000) (h:∀ H',Fr [] H H'->Q (.string z) H'):ag PP 262 #[QW b,ac (4*k)] Q H:=by
 have hsB:bd PP 249=some (1,1,some (.int .u8 0)):=by kernel_rfl
 have OB:dL (4*k):=dN k1 k2;have D0:=ik z;apply ze;dsimp only [aL,bk,aC,ah,ak,eb,aX,aF,ac,cL,av,bm,aE,am,aJ,bM,A9,aO,ax,aI];refine qZ ⟨_,rfl,?_⟩;rw [a09 (by rw [fM k1 k2];decide),a0f];refine ⟨fun w H'=>∃(i:Nat) (a:Option Addr) (c:Nat) (G:aS),w=[.slice a i c,ac i]∧i<=z.size∧bZ 1 H' a i c (((bN z).take i).map (Value.int .u8)) G∧Fr [] H H'∧(∀ x∈G,H.size<=x),fun w _=>match w with
  | [_,.int _ i]=>((z.size:Int)-i).toNat
  | _=>0,⟨0,none,0,[],rfl,a07 _,by simpa using bZ.nil 1 H,Fr.refl _ _,by simp⟩,?_⟩
 rintro w H1 ⟨i,a1,c1,G,rfl,hi,ho,bw,hG⟩ _;refine ⟨_,_,_,_,rfl,jy (hK.nil bw) OB ⟨_,rfl,?_⟩⟩;rw [km hs k1 k2];simp only [D0];rw [ae];refine aD (fun an=>?_) fun JR=>?_
 ·have ui:i<(bN z).length:=by omega
  have hb:=iv z ((bN z).getD i 0) (by
   rw [a1f,a0Q ui];exact a04 ui)
  have lj:((bN z).take (i+1)).map (Value.int .u8)=((bN z).take i).map (Value.int .u8)++[.int .u8 ((bN z).getD i 0)]:=by
   rw [a1i,a0Q ui,a2m];simp [ui]
  have e:IntKind.wrap .i64 ((i:Int)+1)=((i+1:Nat):Int):=by rw [ao (by omega) (by omega)];omega
  refine sS (hK.nil bw) OB ⟨_,rfl,?_⟩;rw [qv hs k1 k2 ui];have eu:∀ n:Int,0<=n->n<=255->IntKind.wrap .u8 n=n:=fun n h0 h1=>by
   show (if (false && decide (n % 256 ≥ 128))=true then n % 256-256 else n % 256)=n;rw [a3I,a0a Bool.false_ne_true];omega
  rw [eu _ hb.1 hb.2,e];refine bK hsB rfl (by kernel_rfl) ho rfl (by simp [dJ]) (by omega) (by decide) (by decide) fun a' c' G2 H3 g1 g2 g3=>⟨_,_,_,rfl,?_⟩;have o3:=Up.fresh bw g2 hG;refine ⟨⟨i+1,a',c',G2,rfl,by omega,?_,o3.1,o3.2⟩,by simp;omega⟩;rw [lj];exact g1
 ·have:i=z.size:=by omega
  subst this;rw [a0Y (by omega)] at ho;refine BM (e:=5) (by kernel_rfl) (by kernel_rfl) (by kernel_rfl) ho.rd ⟨_,rfl,?_⟩;rw [vQ];exact h _ bw
theorem uq (hK:RK H b F s t) (hv:KAllW s t v){z:ByteArray} (hz:z.size<=100000) (h:∀ H' F',RK H' b F' (s.makeP 10 1 (bN z)).2 t->Up F H F' H'->Q (NA (s.makeP 10 1 (bN z)).1) H'):ag PP 260 #[QW b,.string z] Q H:=by
 have i7:bd PP 30=some (1,8,some (ac 0)):=by kernel_rfl
 have D0:=ik z;have an:=hK.lt;apply Lo;dsimp only [aL,aA,ah,ak,aX,ac,cL,av,bm,am,aJ,bM,jb,aI];refine ⟨fun w H'=>∃(i:Nat) (a:Option Addr) (c:Nat) (G:aS),w=[.slice a i c,ac i]∧i<=z.size∧bZ 1 H' a i c (az ((bN z).take i)) G∧Fr [] H H'∧(∀ x∈G,H.size<=x),fun w _=>match w with
  | [_,.int _ i]=>((z.size:Int)-i).toNat
  | _=>0,⟨0,none,0,[],rfl,a07 _,by simpa [az] using bZ.nil 1 H,Fr.refl _ _,by simp⟩,?_⟩
 rintro w H1 ⟨i,a1,c1,G,rfl,hi,ho,bw,hG⟩ _;refine ⟨_,_,_,_,rfl,?_⟩;rw [ae];refine aD (fun an=>?_) fun JR=>?_
 ·have ui:i<(bN z).length:=by omega
  have hzi:i<z.size:=by omega
  have hu:=(z[i]).toNat_lt;have Vr:(bN z)[i]?=some ((z[i]).toNat:Int):=by
   unfold bN;rw [a2s,a2C]
   have:z.data[i]?=some z[i]:=by
    have h1:i<z.data.size:=hzi;rw [a3g h1];rfl
   rw [this];rfl
  have lj:(bN z).take (i+1)=(bN z).take i++[((z[i]).toNat:Int)]:=by
   rw [a1i,Vr];rfl
  have e:IntKind.wrap .i64 ((i:Int)+1)=((i+1:Nat):Int):=by rw [ao (by omega) (by omega)];omega
  refine ⟨z[i],⟨by omega,by rw [a0j];simp [hzi]⟩,?_⟩;rw [e]
  try rw [ao (n:=((z[i]).toNat:Int)) (by omega) (by omega)]
  refine bK i7 rfl (by kernel_rfl) ho rfl (by simp [dJ]) (by omega) (by decide) (by decide) fun a' c' G2 H3 g1 g2 g3=>⟨_,_,_,rfl,?_⟩;have o3:=Up.fresh bw g2 hG;refine ⟨⟨i+1,a',c',G2,rfl,by omega,?_,o3.1,o3.2⟩,by simp;omega⟩;rw [lj,bR];exact g1
 ·have:i=z.size:=by omega
  subst this;rw [a0Y (by omega)] at ho;have hout:rM H1 a1 F:=bZ.out ho fun x hx hm=>by have:=hG x hx;have:=an x hm;omega
  exact yx (hK.nil bw) hv (by decide) ho.rd (.inr hout) (by omega) (fun w hw=>by unfold fv;rw [a0b rfl];exact iv z w hw) fun H' F' w8 u=>⟨_,_,rfl,h H' F' w8 (eZ bw u)⟩
end
theorem bQ {a b:ByteArray}{A B:Prop} (h1:a=b->A) (h2:a≠b->B):cond (bO a b) A B:=by
 rw [cV,ae];exact aD h1 h2
theorem vm {a b:ByteArray} (h:a≠b):bO a b=false:=by rw [cV,a09 h]
theorem Bs (a:ByteArray):bO a a=true:=by rw [cV,a00 rfl]
theorem mB {r:RH}{w:Int} (h:cK r w≠0):dL w:=by
 obtain ⟨a,b,c⟩:=nN (r:=r) (w:=w);exact fun hk=>h (c hk)
section
variable {H:au}{b:Nat}{F:aS}{s:SP}{t:TB}{v:KV}{Gw:Int->Prop}{G:Int->Prop}{Q:QT}{r x y:Int}{ar:List Int}{n:Int}{p:PF}{sel:ByteArray}
theorem xx {s:SP}{c n f:Int} (h:(s.alloc c n f).1.2≠0):(s.alloc c n f).1.1=0:=by
 have hz:∀ r:RH,(r.alloc c n f).1.2≠0->(r.alloc c n f).1.1=0:=fun r h=>by
  unfold RH.alloc at h ⊢;split
  ·rfl
  split
  ·rfl
  split
  ·rfl
  split
  ·rfl
  ·rename_i g1 g2 g3 g4;rw [a0a g1,a0a g2,a0a g3,a0a g4] at h;exact absurd rfl h
 unfold SP.alloc at h ⊢;split
 ·rename_i hc;rw [a0b hc] at h
  have:=hz _ h;show 4*_=(0:Int);omega
 ·rename_i hc;rw [a0a hc] at h
  have:=hz _ h;show 4*_=(0:Int);omega
theorem Ie (s:SP) (c n f:Int):vw s c n f=(s.alloc c n f).1.1:=by
 unfold vw;split
 ·rfl
 ·rename_i h;exact (xx h).symm
theorem CL (hU:UW s v Gw) (hv:KAllW s t v) (hp:PairV v) (hr:WK v Gw r) (h0:cK s.h r≠0) (hz:dL y){i:Int} (h:fX v (cK s.h r)=true∨cK s.h r=11) (i0:0<=i) (i1:i<(dl s.h r).1):(s.putW r i y).1=0:=by
 have own:aU r=3∧∃ c l,ob s.h (r / 4)=some (c,0,l):=by
  rcases h with h | h
  ·obtain ⟨h3,c,l,hx,_⟩:=hU.inst hv hp hr h0 h;exact ⟨h3,c,l,hx⟩
  ·obtain ⟨p4,p5,p6,p7,p8,p9,p10,p11,p12,_⟩:=lI hp;rcases hU.view hv hr h0 with ⟨_,e⟩ | ⟨_,e⟩ | ⟨h3,c,f,l,hx,JO,e,hc⟩
   ·omega
   ·omega
   ·refine ⟨h3,?_⟩;rcases hc with (rfl | rfl | rfl) | ⟨_,rfl,SN⟩ | ⟨rfl,_⟩ | ⟨hG,⟨_,rfl⟩ | ⟨hf,_⟩⟩
    ·omega
    ·omega
    ·omega
    ·exfalso;rw [mP h3 hx,SN] at i1;simp at i1;omega
    ·omega
    ·omega
    ·subst hf;exact ⟨c,l,hx⟩
 obtain ⟨h3,c,l,hx⟩:=own;rw [mP h3 hx] at i1;have eo:d7 r=r / 4:=by unfold d7;rw [a0b h3]
 unfold SP.putW;rw [eo];exact (BB hx ⟨i0,i1⟩ (by unfold fv;rw [a0a (by decide)];exact hz)).1
abbrev DR (H:au) (b:Nat) (F:aS) (s:SP) (t:TB) (v:KV) (r:Int) (ar:List Int) (o:PO) (Q:QT):Prop:=∀ H' F',RK H' b F' (bS s t v r ar o).2.1 (bS s t v r ar o).2.2->Up F H F' H'->Q (iY (bS s t v r ar o).1) H'
theorem kP {m:Int} (h0:0<=m) (h1:m<=100000):iA m=(2*m+1,0):=lP ⟨by omega,by omega⟩
theorem AV (hK:RK H b F s t) (hv:KAllW s t v) (hU:UW s v Gw) (hp:PairV v) (hr:WK v Gw r) (D2:cK s.h r≠0) (K:DR H b F s t v r ar .copy Q):ag PP 255 #[dv b r x y] Q H:=by
 have i7:bd PP 30=some (1,8,some (ac 0)):=by kernel_rfl
 have hw:=mB D2;have Tb:=uh hv D2;obtain ⟨m,CO,Rx⟩:=pZ s hv r;have an:=hK.lt;simp only [DR,bS,CO,a0j] at K;apply ED;dsimp only [aL,aN,aA,bk,aC,ah,bW,ak,bP,aX,ay,aF,ac,mS,cL,av,bm,aE,am,aJ,bM,ax,aI];have f:=Fr.push [] H (.cells (dc b r x y) 191);have hb:=bI.new H (dc b r x y) 191;refine ⟨_,hb.cell 0,_,hb.cell 1,oT (hK.nil f) hv ⟨_,rfl,fun w H'=>w=[]∧Fr [] H H'∧bI H' H.size (dc b r x y)∧(cK s.h r=10∨(cK s.h r=11∧m≠0)∨fX v (cK s.h r)=true),?_,?_⟩⟩
 ·have same:∀ H',Fr [] H H'->bI H' H.size (dc b r x y)->¬ (cK s.h r=10∨(cK s.h r=11∧m≠0)∨fX v (cK s.h r)=true)->∃ n18:Int,aq H' ((⟨H.size,0,none⟩:Addr).add 1)=some (ac n18)∧Q (.tuple #[ac n18,ac 0]) H':=fun H' f' k9 hc=>by
   rw [a0a hc] at K;exact ⟨_,k9.cell 1,K _ _ (hK.nil f') (Up.of_nil f')⟩
  rw [bn,ae];refine aD (fun qz=>?_) fun qz=>⟨rfl,f,hb,.inl (a0v qz)⟩;rw [bq,ae];refine aD (fun I3=>?_) fun I3=>?_
  ·refine ⟨_,hb.cell 0,_,hb.cell 1,jy (hK.nil f) hw ⟨_,rfl,?_⟩⟩;rw [CO];by_cases h0:(m:Int) > 0
   ·rw [a00 h0,a0p,a0f];exact ⟨rfl,f,hb,.inr (.inl ⟨I3,by omega⟩)⟩
   ·rw [a09 h0,a0C,a0P];refine ⟨_,hb.cell 0,_,hb.cell 1,ub (hK.nil f) hv fun H3 f3=>⟨_,rfl,?_⟩⟩;have f03:=f.trans f3;have Ju:=hb.fr f3 (by simp);cases hi:fX v (cK s.h r) with
    | false=>rw [a0C,a0P];exact same _ f03 Ju (by rintro (h | h | h);exact qz h;exact absurd h.2 (by omega);rw [hi] at h;cases h)
    | true=>rw [a0p,a0f];exact ⟨rfl,f03,Ju,.inr (.inr rfl)⟩
  ·refine ⟨_,hb.cell 0,_,hb.cell 1,ub (hK.nil f) hv fun H3 f3=>⟨_,rfl,?_⟩⟩;have f03:=f.trans f3;have Ju:=hb.fr f3 (by simp);cases hi:fX v (cK s.h r) with
   | false=>rw [a0C,a0P];exact same _ f03 Ju (by rintro (h | h | h);exact qz h;exact absurd h.1 I3;rw [hi] at h;cases h)
   | true=>rw [a0p,a0f];exact ⟨rfl,f03,Ju,.inr (.inr rfl)⟩
 rintro w H5 ⟨rfl,f5,XB,hc⟩ _;rw [a0b hc] at K;obtain ⟨sb,hp5,F1,hcs,V4,hR,_⟩:=(hK.nil f5).hp;refine ⟨rfl,_,XB.cell 0,_,rfl,_,hcs,_,rfl,_,V4,_,XB.cell 1,cR (iX hw) ⟨_,rfl,⟨⟨V4,trivial⟩,⟨hcs,trivial⟩,⟨XB.cell 0,trivial⟩,trivial⟩,?_⟩⟩;have es:=wB hK.wfs r;rw [jh hw];have emay:∀ w∈dm s.h r m,fv (dl s.h r).2 w:=by
  rcases hU.view hv hr D2 with ⟨h1,e⟩ | ⟨h1,e⟩ | ⟨h3,c',f',l',hx,_⟩
  ·rcases hc with h | h | h
   ·omega
   ·omega
   ·have:=(hU.inst hv hp hr D2 h).1;omega
  ·rcases hc with h | h | h
   ·omega
   ·omega
   ·have:=(hU.inst hv hp hr D2 h).1;omega
  ·rw [mP h3 hx] at CO ⊢
   have:m=l'.length:=by have h9:(l'.length:Int)=m:=CO;omega
   rw [this,vL h3 hx];obtain ⟨o,ho,_,hf,rfl⟩:=dg.1 hx;have hg:=hv.ks.wf.h.objs.good o (aR ho).1;intro w hw
   have:=hg.may w hw;rw [hf] at this;exact this
 refine lX hR ⟨_,_,_,rfl,trivial,?_⟩;have e2:(s.h.size (d7 r)).2.1=(dl s.h r).2:=by rw [es]
 rw [e2];refine ⟨fun w H'=>∃(i:Nat) (a:Option Addr) (c:Nat) (G:aS),w=[.slice a i c,ac i]∧i<=m∧bZ 1 H' a i c (az ((dm s.h r m).take i)) G∧Fr [] H H'∧(∀ x∈G,H.size<x)∧bI H' H.size (dc b r x y),fun w _=>match w with
  | [_,.int _ i]=>((m:Int)-i).toNat
  | _=>0,⟨0,none,0,[],rfl,a07 _,by simpa [az] using bZ.nil 1 H5,f5,by simp,XB⟩,?_⟩
 rintro w H8 ⟨i,a8,c8,G8,rfl,hi,ho,f8,hG,Oh⟩ _;refine ⟨_,_,_,_,rfl,_,Oh.cell 0,_,Oh.cell 1,jy (hK.nil f8) hw ⟨_,rfl,?_⟩⟩;rw [CO,ae];refine aD (fun b9=>?_) fun JR=>?_
 ·have ui:i<(dm s.h r m).length:=by simp [dm];omega
  have lj:(dm s.h r m).take (i+1)=(dm s.h r m).take i++[eU s.h r (i:Int)]:=by
   rw [a1i,a0Q ui];simp [dm]
  have e:IntKind.wrap .i64 ((i:Int)+1)=((i+1:Nat):Int):=by rw [ao (by omega) (by omega)];omega
  refine ⟨_,Oh.cell 0,_,Oh.cell 1,sS (hK.nil f8) hw ⟨_,rfl,?_⟩⟩;rw [e];refine bK i7 rfl (by kernel_rfl) ho rfl (by simp [dJ]) (by omega) (by decide) (by decide) fun a' c' G2 H9 g1 g2 g3=>⟨_,_,_,rfl,?_⟩;have zw:=f8.1;have D0:=Oh.lt;have hn8:H.size∉G8:=fun hm=>by have:=hG _ hm;omega
  have f89:Fr [] H H9:=⟨a0O f8.1 g2.1.1,fun z hz _=>by rw [g2.1.2 z (a0X hz f8.1) (fun hm=>by have:=hG _ hm;omega),f8.2 z hz (by simp)]⟩;refine ⟨⟨i+1,a',c',G2,rfl,by omega,?_,f89,fun z hz=>?_,Oh.fr g2.1 hn8⟩,by simp;omega⟩
  ·rw [lj,bR];exact g1
  ·rcases g2.2 z hz with h | h
   ·exact hG z h
   ·omega
 ·have:i=m:=by omega
  subst this;rw [a0Y (by simp [dm])] at ho;have hout:rM H8 a8 F:=bZ.out ho fun z hz hm=>by have:=hG z hz;have:=an z hm;omega
  refine ⟨_,Oh.cell 0,yx (hK.nil f8) hv Tb ho.rd (.inr hout) (by omega) emay fun H' F' w8 u=>⟨_,_,rfl,K H' F' w8 (eZ f8 u)⟩⟩
theorem vc {m:Int}:(dP s t r ar m).2.2=t:=by
 unfold dP;split
 ·rfl
 ·split <;> rfl
theorem QC (hK:RK H b F s t) (hv:KAllW s t v) (hU:UW s v Gw) (hp:PairV v) (hr:WK v Gw r) (SL:∀ w∈ar,dL w) (D2:cK s.h r≠0) (hx:x=ar.getD 0 0) (hy:y=ar.getD 1 0)
  (K:DR H b F s t v r ar (jq p) Q) (hm:(sel,n,p)∈qA) (hn:(ar.length:Int)=n):ag PP 131 #[dv b r x y,.string sel] Q H:=by
 have hw:=mB D2;have Tb:=uh hv D2;have OA:=hr;obtain ⟨m,CO,Rx⟩:=pZ s hv r;have Jz:0<=cT s.h v r∧cT s.h v r<=8192:=by
  unfold cT;split
  ·omega
  ·exact ⟨by decide,by decide⟩
 subst hx hy;apply GJ;dsimp only [aL,aN,aA,aP,bk,aC,ah,ak,ay,aF,aZ,ac,rL,am,aJ,ax];have f:=Fr.push [] H (.cells (dc b r (ar.getD 0 0) (ar.getD 1 0)) 191);have hb:=bI.new H (dc b r (ar.getD 0 0) (ar.getD 1 0)) 191;have An:=hK.nil f;generalize (H.push (.cells (dc b r (ar.getD 0 0) (ar.getD 1 0)) 191))=H0 at f hb An ⊢;have K0:∀ {H'},Fr [] H0 H'->(bS s t v r ar (jq p)).2=(s,t)->Q (iY (bS s t v r ar (jq p)).1) H':=fun f' e=>K _ F (by rw [show (bS s t v r ar (jq p)).2.1=s by rw [e],show (bS s t v r ar (jq p)).2.2=t by rw [e]];exact An.nil f') (Up.of_nil (f.trans f'));refine ⟨fun w H'=>w=[.bool (decide (sel=⟨#[61,61]⟩∨sel=⟨#[61]⟩))]∧H'=H0,?_,?_⟩
 ·refine bQ (fun e=>⟨by rw [a00 (.inl e)],rfl⟩) fun e=>⟨?_,rfl⟩
  have:bO sel ⟨#[61]⟩=decide (sel=⟨#[61,61]⟩∨sel=⟨#[61]⟩):=by
   rw [cV];exact decide_eq_decide.2 ⟨.inr,fun h=>h.resolve_left e⟩
  rw [this]
 rintro w H1 ⟨rfl,rfl⟩ _;refine ⟨_,rfl,?_⟩;have slotc:∀ (put:Bool){H':au}{Q':Value->au->Prop},Fr [] H1 H'->jq p=.ivAt->ar=(if put then [ar.getD 0 0,ar.getD 1 0] else [ar.getD 0 0])->(∀ (a b:Int) H'',Q (.tuple #[ac a,ac b]) H''->Q' (.tuple #[ac a,ac b]) H'')->ag PP 254 #[dv b r (ar.getD 0 0) (ar.getD 1 0),ac (cT s.h v r),.bool put] Q' H':=fun put H' Q' f' e I9 hQ =>
  yE (An.nil f') hw (fun Jj h0=>by
   obtain ⟨i0,i1⟩:=jT h0;have hz:dL (ar.getD 1 0):=SL _ (by rw [I9,Jj];simp);cases hi:fX v (cK s.h r) with
   | false =>
    have e0:cT s.h v r=0:=by unfold cT;rw [hi];rfl
    rw [e0] at i0 i1;omega
   | true =>
    have e0:cT s.h v r=(dl s.h r).1:=by unfold cT;rw [hi];rfl
    exact CL hU hv hp hr D2 hz (.inl hi) i0 (by rw [e0] at i1 ⊢;exact i1)) fun H'' F'' OO u=>hQ _ _ _ (by
   have K':DR H b F s t v r ar .ivAt Q:=by rw [←e];exact K
   have e2:bS s t v r ar .ivAt=dP s t r (if put then [ar.getD 0 0,ar.getD 1 0] else [ar.getD 0 0]) (cT s.h v r):=by rw [←I9];rfl
   have e3:(dP s t r (if put then [ar.getD 0 0,ar.getD 1 0] else [ar.getD 0 0]) (cT s.h v r)).2.2=t:=vc;unfold DR at K';rw [e2,e3] at K';exact K' _ _ OO (eZ (f.trans f') u))
 simp only [qA,a0E,Prod.mk.injEq,a1l,a2h] at hm;rcases hm with ⟨rfl,rfl,rfl⟩ | ⟨rfl,rfl,rfl⟩ | ⟨rfl,rfl,rfl⟩ | ⟨rfl,rfl,rfl⟩ | ⟨rfl,rfl,rfl⟩ | ⟨rfl,rfl,rfl⟩ | ⟨rfl,rfl,rfl⟩ | ⟨rfl,rfl,rfl⟩ | ⟨rfl,rfl,rfl⟩ | ⟨rfl,rfl,rfl⟩ | ⟨rfl,rfl,rfl⟩ | ⟨rfl,rfl,rfl⟩
 ·rw [ae,a0b (by decide)];refine ⟨_,hb.cell 1,_,hb.cell 2,cz ⟨_,_,rfl,?_⟩⟩;rw [bq];exact K0 (Fr.refl _ _) rfl
 ·rw [ae,a0b (by decide)];refine ⟨_,hb.cell 1,_,hb.cell 2,cz ⟨_,_,rfl,?_⟩⟩;rw [bq];exact K0 (Fr.refl _ _) rfl
 all_goals rw [ae,a0a (by decide)]
 all_goals repeat refine bQ (fun e=>absurd e (by decide)) fun _=>?_
 ·refine bQ (fun _=>?_) fun e=>absurd rfl e;refine ⟨_,hb.cell 1,_,hb.cell 2,cz ⟨_,_,rfl,?_⟩⟩;rw [bn];exact K0 (Fr.refl _ _) rfl
 ·refine bQ (fun _=>?_) fun e=>absurd rfl e;exact ⟨_,hb.cell 0,_,hb.cell 1,oT An hv ⟨_,rfl,ce ⟨by omega,by omega⟩ ⟨_,rfl,K0 (Fr.refl _ _) rfl⟩⟩⟩
 ·refine bQ (fun _=>?_) fun e=>absurd rfl e;refine ⟨_,hb.cell 1,ce ⟨by omega,by omega⟩ ⟨_,rfl,⟨⟨hb.cell 1,trivial⟩,trivial⟩,cz ⟨_,_,rfl,trivial,?_⟩⟩⟩;rw [bq];exact K0 (Fr.refl _ _) rfl
 ·refine bQ (fun _=>?_) fun e=>absurd rfl e;refine ⟨_,hb.cell 1,ce ⟨by omega,by omega⟩ ⟨_,rfl,⟨⟨hb.cell 1,trivial⟩,trivial⟩,cz ⟨_,_,rfl,trivial,?_⟩⟩⟩;rw [bn];exact K0 (Fr.refl _ _) rfl
 ·refine bQ (fun _=>?_) fun e=>absurd rfl e;exact ⟨_,hb.cell 1,K0 (Fr.refl _ _) rfl⟩
 ·refine bQ (fun _=>?_) fun e=>absurd rfl e;have hk:(bS s t v r ar .isKind).1=if cK s.h (ar.getD 0 0)≠12 then (0,170) else (tw (iR v (ar.getD 0 0 / 4) (cK s.h r)),0):=rfl;refine ⟨_,hb.cell 0,_,hb.cell 2,oT An hv ⟨_,rfl,?_⟩⟩;rw [bn,ae];refine aD (fun Jb=>?_) fun Jb=>?_
  ·have:=K0 (Fr.refl _ _) rfl;rw [show (bS s t v r ar (jq (.fn 177))).1=(bS s t v r ar .isKind).1 from rfl,hk,a0b Jb] at this;exact this
  have e12:cK s.h (ar.getD 0 0)=12:=a0v Jb;have h3:=CR (r:=s.h) (w:=ar.getD 0 0) (by omega) (by omega) (by omega);have hwx:=mB (r:=s.h) (w:=ar.getD 0 0) (by omega);refine ⟨_,hb.cell 0,_,hb.cell 1,_,hb.cell 2,cR (iX hwx) ⟨_,rfl,⟨⟨hb.cell 1,trivial⟩,⟨hb.cell 0,trivial⟩,trivial⟩,?_⟩⟩;have eo:d7 (ar.getD 0 0)=ar.getD 0 0 / 4:=by unfold d7;rw [a0b h3]
  rw [jh hwx,eo];refine yF An hv fun H2 f2=>⟨_,rfl,trivial,cz ⟨_,_,rfl,trivial,?_⟩⟩
  have:=K0 f2 rfl;rw [show (bS s t v r ar (jq (.fn 177))).1=(bS s t v r ar .isKind).1 from rfl,hk,a0a Jb] at this;exact this
 ·refine bQ (fun _=>?_) fun e=>absurd rfl e;refine ⟨_,hb.cell 0,_,hb.cell 1,_,hb.cell 2,_,hb.cell 3,oc An hv hw fun H2 f2=>⟨_,rfl,dW ⟨by omega,by omega⟩ ⟨_,rfl,?_⟩⟩⟩
  have:=K0 f2 rfl;rw [show (bS s t v r ar (jq (.fn 178))).1=iA (cT s.h v r) from rfl,kP Jz.1 (by omega)] at this;exact this
 ·refine bQ (fun _=>?_) fun e=>absurd rfl e;have I9:ar=[ar.getD 0 0]:=by
   match ar,hn with
   | [a],_=>rfl
  refine ⟨_,hb.cell 0,_,hb.cell 1,_,hb.cell 2,_,hb.cell 3,_,hb.cell 0,_,hb.cell 1,_,hb.cell 2,_,hb.cell 3,oc An hv hw fun H2 f2=>?_⟩;have k8:=hb.fr f2 (by simp);exact ⟨_,rfl,⟨⟨k8.cell 0,k8.cell 1,k8.cell 2,k8.cell 3,trivial⟩,trivial⟩,slotc false f2 rfl I9 fun z1 z2 H'' hq=>⟨_,_,rfl,trivial,hq⟩⟩
 ·refine bQ (fun _=>?_) fun e=>absurd rfl e;have I9:ar=[ar.getD 0 0,ar.getD 1 0]:=by
   match ar,hn with
   | [a,b],_=>rfl
  refine ⟨_,hb.cell 0,_,hb.cell 1,_,hb.cell 2,_,hb.cell 3,_,hb.cell 0,_,hb.cell 1,_,hb.cell 2,_,hb.cell 3,oc An hv hw fun H2 f2=>?_⟩;have k8:=hb.fr f2 (by simp);exact ⟨_,rfl,⟨⟨k8.cell 0,k8.cell 1,k8.cell 2,k8.cell 3,trivial⟩,trivial⟩,slotc true f2 rfl I9 fun z1 z2 H'' hq=>⟨_,_,rfl,trivial,hq⟩⟩
 ·exact ⟨_,hb.cell 0,_,hb.cell 1,_,hb.cell 2,_,hb.cell 3,AV An hv hU hp hr D2 (fun H' F' w8 u=>⟨_,_,rfl,K H' F' w8 (eZ f u)⟩)⟩
theorem Qy (hK:RK H b F s t) (hx:x=ar.getD 0 0)
  (K:DR H b F s t v r ar (jq p) Q) (hm:(sel,n,p)∈oX):ag PP 132 #[dv b r x y,.string sel] Q H:=by
 subst hx;apply GY;dsimp only [aN,aA,aP,aC,ah,ak,ay,ac,mS,am,aJ,ax];have f:=Fr.push [] H (.cells (dc b r (ar.getD 0 0) y) 191);have hb:=bI.new H (dc b r (ar.getD 0 0) y) 191;have An:=hK.nil f;generalize (H.push (.cells (dc b r (ar.getD 0 0) y) 191))=H0 at f hb An ⊢;have K0:(bS s t v r ar (jq p)).2=(s,t)->Q (iY (bS s t v r ar (jq p)).1) H0:=fun e=>K _ F (by rw [show (bS s t v r ar (jq p)).2.1=s by rw [e],show (bS s t v r ar (jq p)).2.2=t by rw [e]];exact An) (Up.of_nil f);refine ce ⟨by decide,by decide⟩ ⟨_,rfl,ce ⟨by decide,by decide⟩ ⟨_,rfl,?_⟩⟩;have one:∀ o,(bS s t v r ar o).2=(s,t)->jq p=o->Q (iY (bS s t v r ar o).1) H0:=fun o e1 e2=>by
  have:=K0 (by rw [e2];exact e1);rw [e2] at this;exact this
 simp only [oX,a0E,Prod.mk.injEq,a1l,a2h] at hm;have Tf:=one .and rfl;have Sk:=one .or rfl;simp only [bS] at Tf Sk;rcases hm with ⟨rfl,rfl,rfl⟩ | ⟨rfl,rfl,rfl⟩ | ⟨rfl,rfl,rfl⟩ | ⟨rfl,rfl,rfl⟩
 ·refine bQ (fun _=>?_) fun e=>absurd rfl e;refine ⟨_,hb.cell 1,cz ⟨_,_,rfl,?_⟩⟩;rw [bq];exact K0 rfl
 all_goals
  refine bQ (fun e=>absurd e (by decide)) fun _=>⟨fun w H'=>w=[]∧H'=H0∧(ar.getD 0 0=12∨ar.getD 0 0=8),⟨_,hb.cell 2,?_⟩,?_⟩
 ·have hq:=Tf rfl;rw [bn,ae];refine aD (fun h1=>⟨_,hb.cell 2,?_⟩) fun h1=>⟨rfl,rfl,.inl (by omega)⟩;rw [bn,ae];refine aD (fun h2=>?_) fun h2=>⟨rfl,rfl,.inr (by omega)⟩;rw [a0a (by omega),a0a (by omega)] at hq;exact hq
 ·rintro w H4 ⟨rfl,rfl,hx⟩ _;refine ⟨rfl,?_⟩;have hq:=Tf rfl;rw [vm (by decide),a0C,a0P];refine ⟨_,hb.cell 1,?_⟩;rw [bq,ae];refine aD (fun h1=>⟨_,hb.cell 2,cz ⟨_,_,rfl,?_⟩⟩) fun h1=>cz ⟨_,_,rfl,?_⟩
  ·rw [bq];rcases hx with hx | hx
   ·rw [a0b hx,a00 (by omega)] at hq;rw [a00 (by omega)];exact hq
   ·rw [a0a (by omega),a0b hx] at hq;rw [a09 (by omega)];exact hq
  ·rcases hx with hx | hx
   ·rw [a0b hx,a09 (by omega)] at hq;exact hq
   ·rw [a0a (by omega),a0b hx] at hq;exact hq
 ·have hq:=Tf rfl;rw [bn,ae];refine aD (fun h1=>⟨_,hb.cell 2,?_⟩) fun h1=>⟨rfl,rfl,.inl (by omega)⟩;rw [bn,ae];refine aD (fun h2=>?_) fun h2=>⟨rfl,rfl,.inr (by omega)⟩;rw [a0a (by omega),a0a (by omega)] at hq;exact hq
 ·rintro w H4 ⟨rfl,rfl,hx⟩ _;refine ⟨rfl,?_⟩;have hq:=Tf rfl;rw [vm (by decide),a0C,a0P];refine ⟨_,hb.cell 1,?_⟩;rw [bq,ae];refine aD (fun h1=>⟨_,hb.cell 2,cz ⟨_,_,rfl,?_⟩⟩) fun h1=>cz ⟨_,_,rfl,?_⟩
  ·rw [bq];rcases hx with hx | hx
   ·rw [a0b hx,a00 (by omega)] at hq;rw [a00 (by omega)];exact hq
   ·rw [a0a (by omega),a0b hx] at hq;rw [a09 (by omega)];exact hq
  ·rcases hx with hx | hx
   ·rw [a0b hx,a09 (by omega)] at hq;exact hq
   ·rw [a0a (by omega),a0b hx] at hq;exact hq
 ·have hq:=Sk rfl;rw [bn,ae];refine aD (fun h1=>⟨_,hb.cell 2,?_⟩) fun h1=>⟨rfl,rfl,.inl (by omega)⟩;rw [bn,ae];refine aD (fun h2=>?_) fun h2=>⟨rfl,rfl,.inr (by omega)⟩;rw [a0a (by omega),a0a (by omega)] at hq;exact hq
 ·rintro w H4 ⟨rfl,rfl,hx⟩ _;refine ⟨rfl,?_⟩;have hq:=Sk rfl;rw [Bs,a0p,a0f];refine ⟨_,hb.cell 1,?_⟩;rw [bq,ae];refine aD (fun h1=>cz ⟨_,_,rfl,?_⟩) fun h1=>⟨_,hb.cell 2,cz ⟨_,_,rfl,?_⟩⟩
  ·rcases hx with hx | hx
   ·rw [a0b hx] at hq;exact hq
   ·rw [a0a (by omega),a0b hx,a00 (by omega)] at hq;exact hq
  ·rw [bq];rcases hx with hx | hx
   ·rw [a0b hx] at hq;rw [a00 (by omega)];exact hq
   ·rw [a0a (by omega),a0b hx,a09 (by omega)] at hq;rw [a09 (by omega)];exact hq
theorem PZ (hK:RK H b F s t) (hv:KAllW s t v) (hU:UW s v Gw) (hp:PairV v) (hr:WK v Gw r) (SL:∀ w∈ar,dL w) (D2:cK s.h r=11) (hx:x=ar.getD 0 0) (hy:y=ar.getD 1 0)
  (K:DR H b F s t v r ar (jq p) Q) (hm:(sel,n,p)∈mH) (hn:(ar.length:Int)=n):ag PP 136 #[dv b r x y,.string sel] Q H:=by
 have hw:=mB (r:=s.h) (w:=r) (by omega);obtain ⟨m,CO,Rx⟩:=pZ s hv r;subst hx hy;apply Ig;dsimp only [aL,aN,aA,aP,aC,ah,ak,ay,aF,aZ,ac,am,aJ,ax];have f:=Fr.push [] H (.cells (dc b r (ar.getD 0 0) (ar.getD 1 0)) 191);have hb:=bI.new H (dc b r (ar.getD 0 0) (ar.getD 1 0)) 191;have An:=hK.nil f;generalize (H.push (.cells (dc b r (ar.getD 0 0) (ar.getD 1 0)) 191))=H0 at f hb An ⊢;have K0:(bS s t v r ar (jq p)).2=(s,t)->Q (iY (bS s t v r ar (jq p)).1) H0:=fun e=>K _ F (by rw [show (bS s t v r ar (jq p)).2.1=s by rw [e],show (bS s t v r ar (jq p)).2.2=t by rw [e]];exact An) (Up.of_nil f);refine ⟨_,hb.cell 0,_,hb.cell 1,jy An hw ⟨_,rfl,?_⟩⟩;have slotc:∀ (put:Bool){Q':Value->au->Prop},jq p=.at->ar=(if put then [ar.getD 0 0,ar.getD 1 0] else [ar.getD 0 0])->(∀ (a b:Int) H'',Q (.tuple #[ac a,ac b]) H''->Q' (.tuple #[ac a,ac b]) H'')->ag PP 254 #[dv b r (ar.getD 0 0) (ar.getD 1 0),ac (dl s.h r).1,.bool put] Q' H0:=fun put Q' e I9 hQ =>
  yE An hw (fun Jj h0=>by
   obtain ⟨i0,i1⟩:=jT h0;have hz:dL (ar.getD 1 0):=SL _ (by rw [I9,Jj];simp);exact CL hU hv hp hr (by omega) hz (.inr D2) i0 i1) fun H'' F'' OO u=>hQ _ _ _ (by
   have K':DR H b F s t v r ar .at Q:=by rw [←e];exact K
   have e2:bS s t v r ar .at=dP s t r (if put then [ar.getD 0 0,ar.getD 1 0] else [ar.getD 0 0]) (dl s.h r).1:=by rw [←I9];rfl
   have e3:(dP s t r (if put then [ar.getD 0 0,ar.getD 1 0] else [ar.getD 0 0]) (dl s.h r).1).2.2=t:=vc;unfold DR at K';rw [e2,e3] at K';exact K' _ _ OO (eZ f u))
 simp only [mH,a0E,Prod.mk.injEq,a1l,a2h] at hm;rcases hm with ⟨rfl,rfl,rfl⟩ | ⟨rfl,rfl,rfl⟩ | ⟨rfl,rfl,rfl⟩ | ⟨rfl,rfl,rfl⟩
 all_goals repeat refine bQ (fun e=>absurd e (by decide)) fun _=>?_
 ·refine bQ (fun _=>?_) fun e=>absurd rfl e;refine dW ⟨by omega,by omega⟩ ⟨_,rfl,?_⟩
  have:=K0 rfl;rw [show (bS s t v r ar (jq (.fn 207))).1=iA (dl s.h r).1 from rfl,kP (by omega) (by omega)] at this;exact this
 ·refine bQ (fun _=>?_) fun e=>absurd rfl e;refine cz ⟨_,_,rfl,?_⟩;rw [bq];exact K0 rfl
 ·refine bQ (fun _=>?_) fun e=>absurd rfl e;have I9:ar=[ar.getD 0 0]:=by
   match ar,hn with
   | [a],_=>rfl
  exact ⟨_,hb.cell 0,_,hb.cell 1,_,hb.cell 2,_,hb.cell 3,slotc false rfl I9 fun z1 z2 H'' hq=>⟨_,_,rfl,hq⟩⟩
 ·have I9:ar=[ar.getD 0 0,ar.getD 1 0]:=by
   match ar,hn with
   | [a,b],_=>rfl
  exact ⟨_,hb.cell 0,_,hb.cell 1,_,hb.cell 2,_,hb.cell 3,slotc true rfl I9 fun z1 z2 H'' hq=>⟨_,_,rfl,hq⟩⟩
theorem PI (hK:RK H b F s t) (hv:KAllW s t v) (h3:aU r=3) (hx:x=ar.getD 0 0)
  (K:DR H b F s t v r ar (jq p) Q) (hm:(sel,n,p)∈mG):ag PP 137 #[dv b r x y,.string sel] Q H:=by
 have hw:dL r:=by unfold dL;omega
 obtain ⟨er,o1,o2⟩:=ef h3;have eo:d7 r=r / 4:=by unfold d7;rw [a0b h3]
 subst hx;apply C9;dsimp only [aL,aN,aA,bk,aC,ah,ak,dM,bP,aX,ay,aF,ac,mS,aE,am,aJ,ax];have f:=Fr.push [] H (.cells (dc b r (ar.getD 0 0) y) 191);have hb:=bI.new H (dc b r (ar.getD 0 0) y) 191;have An:=hK.nil f;generalize (H.push (.cells (dc b r (ar.getD 0 0) y) 191))=H0 at f hb An ⊢;have K0:∀ {H'},Fr [] H0 H'->(bS s t v r ar (jq p)).2=(s,t)->Q (iY (bS s t v r ar (jq p)).1) H':=fun f' e=>K _ F (by rw [show (bS s t v r ar (jq p)).2.1=s by rw [e],show (bS s t v r ar (jq p)).2.2=t by rw [e]];exact An.nil f') (Up.of_nil (f.trans f'));refine ⟨_,hb.cell 1,cR (iX hw) ⟨_,rfl,?_⟩⟩;rw [jh hw,eo];have alloc:∀ {H':au}{m fm:Int}{Q':Value->au->Prop},Fr [] H0 H'->(∀ H'' F'',RK H'' b F'' (s.alloc r m fm).2 t->Up F H F'' H''->Q' (.tuple #[ac (vw s r m fm),ac (s.alloc r m fm).1.2]) H'')->∃ sb,aq H' (⟨b,0,none⟩:Addr)=some (QW sb)∧ag PP 266 #[QW sb,ac r,ac m,ac fm] Q' H':=fun {H' m fm Q'} f' hq=>by
  obtain ⟨sb,F1,hc,hS,ff,I2,s6⟩:=(An.nil f').sp;refine ⟨sb,hc,oP hS fun H2 F2 J2 u2=>?_⟩;obtain ⟨F',JP,u⟩:=s6 H2 F2 _ J2 u2
  have:=hq H2 F' JP (eZ (f.trans f') u);rw [Ie] at this;exact this
 simp only [mG,a0E,Prod.mk.injEq,a1l,a2h] at hm;rcases hm with ⟨rfl,rfl,rfl⟩ | ⟨rfl,rfl,rfl⟩ | ⟨rfl,rfl,rfl⟩ | ⟨rfl,rfl,rfl⟩
 all_goals repeat refine bQ (fun e=>absurd e (by decide)) fun _=>?_
 ·refine bQ (fun _=>?_) fun e=>absurd rfl e;have K':DR H b F s t v r ar .fresh Q:=K;simp only [DR,bS] at K';refine ⟨_,hb.cell 0,wG An hv fun H4 f4=>?_⟩;have Jq:=hb.fr f4 (by simp);cases JG:eR v (r / 4) with
  | none =>
   rw [JG] at K';simp only at K';exact ⟨_,_,rfl,fun _ _=>False,K' _ F (An.nil f4) (Up.of_nil (f.trans f4)),fun _ _ h=>h.elim⟩
  | some i =>
   rw [JG] at K';simp only at K';refine ⟨_,_,rfl,fun w H'=>w=[]∧H'=H4∧¬ ((i:Int)+1<=14∧r / 4≠4),?_,?_⟩
   ·simp only [show ((0:Int) != 0)=false from rfl,a0f];rw [ae];refine aD (fun h14=>?_) fun h14=>⟨trivial,trivial,fun h=>h14 h.1⟩;rw [bn,ae];refine aD (fun h4=>?_) fun h4=>⟨trivial,trivial,fun h=>h4 h.2⟩;rw [a0b ⟨h14,h4⟩] at K';exact K' _ F (An.nil f4) (Up.of_nil (f.trans f4))
   rintro w H5 ⟨rfl,rfl,hc⟩ _;rw [a0a hc] at K';refine ⟨rfl,_,Jq.cell 0,uP (An.nil f4) hv (fun i' hi' a3 l3 c3 G3 H6 R4 f6 _=>?_) (fun hn=>by rw [JG] at hn;cases hn)⟩;rw [JG] at hi';cases hi';have f06:=f4.trans f6;have hb6:=Jq.fr f6 (by simp);have Tk:l3=(ch v i).length:=by have:=R4.len;simpa [bC] using this.symm
   subst Tk;obtain ⟨sb,XG,O7⟩:=alloc (m:=((ch v i).length:Int)) (fm:=0) (Q':=fun v31 H7=>∃ n32:Int,∃ n33:Int,v31=.tuple #[ac n32,ac n33]∧True∧Q (.tuple #[ac n32,ac n33]) H7) f06 fun H'' F'' OO u=>⟨_,_,rfl,trivial,K' H'' F'' OO u⟩;exact ⟨_,_,_,_,rfl,_,hb6.cell 0,_,rfl,_,XG,_,hb6.cell 1,O7⟩
 ·have K':DR H b F s t v r ar .sized Q:=K;simp only [DR,bS] at K';obtain ⟨Z,hZ⟩:∃ Z:Prop,Z=((r / 4≠10∧r / 4≠11)∨aU (ar.getD 0 0)≠1∨ar.getD 0 0 / 2<0∨8192<ar.getD 0 0 / 2):=⟨_,rfl⟩;have bad:Z->Q (.tuple #[ac 0,ac 170]) H0:=fun hz=>by
   rw [hZ] at hz;rw [a0b hz] at K';exact K' _ F An (Up.of_nil f)
  have en:aU (ar.getD 0 0)=1->cG (ar.getD 0 0)=ar.getD 0 0 / 2:=fun h=>(gu h).2.2;have chk:(r / 4=10∨r / 4=11)->∃ n35:Int,aq H0 ((⟨H.size,0,none⟩:Addr).add 2)=some (ac n35)∧ag PP 251 #[ac n35] (fun v36 H8=>∃ b37:Bool,v36=.bool b37∧cond (!b37) (Q (.tuple #[ac 0,ac 170]) H8) (∃ n38:Int,aq H8 ((⟨H.size,0,none⟩:Addr).add 2)=some (ac n38)∧ag PP 256 #[ac n38] (fun v39 H9=>∃ n40:Int,v39=ac n40∧cond (decide (n40<0)) (Q (.tuple #[ac 0,ac 170]) H9) (∃ n41:Int,aq H9 ((⟨H.size,0,none⟩:Addr).add 2)=some (ac n41)∧ag PP 256 #[ac n41] (fun v42 H10=>∃ n43:Int,v42=ac n43∧cond (decide (n43 > 8192)) (Q (.tuple #[ac 0,ac 170]) H10) (([]:List Value)=[]∧H10=H0∧¬ Z)) H9)) H8)) H0:=fun ho=>by
   refine ⟨_,hb.cell 2,dd ⟨_,rfl,?_⟩⟩;by_cases h1:aU (ar.getD 0 0)=1
   ·rw [a00 h1,a0p,a0f];refine ⟨_,hb.cell 2,cn ⟨_,rfl,?_⟩⟩;rw [en h1,ae];refine aD (fun h2=>bad (by rw [hZ];exact .inr (.inr (.inl h2)))) fun h2=>⟨_,hb.cell 2,cn ⟨_,rfl,?_⟩⟩;rw [en h1,ae];refine aD (fun h3=>bad (by rw [hZ];exact .inr (.inr (.inr h3)))) fun h3=>⟨rfl,rfl,?_⟩;rw [hZ];rintro (h | h | h | h)
    ·omega
    ·exact h h1
    ·omega
    ·omega
   ·rw [a09 h1,a0C,a0P];exact bad (by rw [hZ];exact .inr (.inl h1))
  refine ⟨fun w H'=>w=[]∧H'=H0∧¬ Z,?_,?_⟩
  ·rw [bn,ae];refine aD (fun qz=>?_) fun qz=>chk (.inl (a0v qz));rw [bn,ae];exact aD (fun I3=>bad (by rw [hZ];exact .inl ⟨qz,I3⟩)) fun I3=>chk (.inr (a0v I3))
  rintro w H14 ⟨rfl,rfl,hz⟩ _;rw [hZ] at hz;rw [a0a hz] at K';have Xo:=hz;simp only [a21] at Xo;have JC:aU (ar.getD 0 0)=1:=a0v Xo.2.1;refine ⟨rfl,?_⟩;rw [bq,ae];refine aD (fun qz=>?_) fun qz=>?_
  ·rw [a0b qz] at K';obtain ⟨sb,hc,O7⟩:=alloc (m:=ar.getD 0 0 / 2) (fm:=1) (Q':=fun v61 H16=>∃ n62:Int,∃ n63:Int,v61=.tuple #[ac n62,ac n63]∧True∧Q (.tuple #[ac n62,ac n63]) H16) (Fr.refl _ _) fun H'' F'' OO u=>⟨_,_,rfl,trivial,K' H'' F'' OO u⟩;refine ⟨_,hb.cell 0,_,rfl,_,hc,_,hb.cell 1,_,hb.cell 2,cn ⟨_,rfl,⟨⟨hb.cell 1,trivial⟩,⟨hc,trivial⟩,⟨hb.cell 0,trivial⟩,trivial⟩,?_⟩⟩;rw [en JC];exact O7
  ·rw [a0a qz] at K';refine ⟨_,hb.cell 2,cn ⟨_,rfl,?_⟩⟩;rw [en JC,bq,ae];refine aD (fun h0=>ce ⟨by decide,by decide⟩ ⟨_,rfl,?_⟩) fun h0=>?_
   ·rw [a0b h0] at K';exact K' _ F An (Up.of_nil f)
   ·rw [a0a h0] at K';obtain ⟨sb,hc,O7⟩:=alloc (m:=ar.getD 0 0 / 2) (fm:=0) (Q':=fun v76 H20=>∃ n77:Int,∃ n78:Int,v76=.tuple #[ac n77,ac n78]∧True∧Q (.tuple #[ac n77,ac n78]) H20) (Fr.refl _ _) fun H'' F'' OO u=>⟨_,_,rfl,trivial,K' H'' F'' OO u⟩;refine ⟨_,hb.cell 0,_,rfl,_,hc,_,hb.cell 1,_,hb.cell 2,cn ⟨_,rfl,⟨⟨hb.cell 1,trivial⟩,⟨hc,trivial⟩,⟨hb.cell 0,trivial⟩,trivial⟩,?_⟩⟩;rw [en JC];exact O7
 ·refine bQ (fun _=>?_) fun e=>absurd rfl e;exact ⟨_,hb.cell 0,_,hb.cell 1,sS An hw ⟨_,rfl,K0 (Fr.refl _ _) rfl⟩⟩
 ·refine bQ (fun _=>?_) fun e=>absurd rfl e;exact ⟨_,hb.cell 0,_,hb.cell 1,sS An hw ⟨_,rfl,K0 (Fr.refl _ _) rfl⟩⟩
end
end
theorem fG (n:Int):dA n=jL n:=Ay n
section
variable {H:au}{Q:QT}
theorem gE {n:Int} (hn:kx n) (h:Q (.bool true) H):ag PP 322 #[ac n] Q H:=by
 apply Lf;dsimp only [aP,ah];rw [ae,a0b hn.1,a00 hn.2];exact h
theorem wS {n:Int} (h0:-9000000000000000000<=n) (h1:n<=9000000000000000000) (h:Q (ac (n % 2147483648)) H):ag PP 365 #[ac n] Q H:=by
 apply Kc;dsimp only [ah,aX,ac,ax,aI];have htm:=kS n 2147483648;rw [ae];refine aD (fun hc=>?_) fun hc=>?_
 ·rw [ao (by omega) (by omega)]
  have:Int.tmod n 2147483648+2147483648=n % 2147483648:=by omega
  rw [this];exact h
 ·have:Int.tmod n 2147483648=n % 2147483648:=by omega
  rw [this];exact h
theorem lZ {n:Int} (h0:-9000000000000000000<=n) (h1:n<=9000000000000000000) (h:Q (ac (jL n)) H):ag PP 323 #[ac n] Q H:=by
 apply E0;dsimp only [aC,ah,bP,ac,aI];refine wS h0 h1 ⟨_,rfl,?_⟩;unfold jL at h;rw [ae];refine aD (fun hc=>?_) fun hc=>?_
 ·rw [a0b hc] at h;rw [ao (by omega) (by omega)];exact h
 ·rw [a0a hc] at h;exact h
end
theorem DL:td 325 iF:=fun n m hn hm {Q H} h=>by
 apply IK;dsimp only [aA,bk,aC,ah,ac,aI];refine gE hn ⟨_,rfl,?_⟩;rw [a0p,a0f];refine gE hm ⟨_,rfl,?_⟩;rw [a0p,a0f];obtain ⟨a1,a2⟩:=hn;obtain ⟨b1,b2⟩:=hm;have e:IntKind.wrap .i64 (n+m)=n+m:=ao (by omega) (by omega);unfold iF at h;rw [fG,e] at h;rw [e];exact lZ (by omega) (by omega) ⟨_,rfl,h⟩
theorem tT:∀ (n m:Int),(kx n)->kx m->∀ {Q:QT}{H:au},Q (.tuple #[ac (fD n m).1,ac (fD n m).2]) H->ag PP 258 #[ac n,ac m] Q H:=fun n m hn hm {Q H} h=>by
 apply EF;dsimp only [aA,bk,aC,ah,ac,aI];refine gE hn ⟨_,rfl,?_⟩;rw [a0p,a0f];refine gE hm ⟨_,rfl,?_⟩;rw [a0p,a0f];obtain ⟨a1,a2⟩:=hn;obtain ⟨b1,b2⟩:=hm;have e:IntKind.wrap .i64 (n-m)=n-m:=ao (by omega) (by omega);unfold fD at h;rw [fG,e] at h;rw [e];exact lZ (by omega) (by omega) ⟨_,rfl,h⟩
theorem Ez {n m:Int} (hn:kx n) (hm:kx m):-1152921504606846976<=n*m∧n*m<=1152921504606846976:=by
 obtain ⟨a1,a2⟩:=hn;obtain ⟨b1,b2⟩:=hm;have h1:(n*m).natAbs<=1073741824*1073741824:=by
  rw [Int.natAbs_mul];exact a4d (by omega) (by omega)
 omega
theorem Gd:td 326 iG:=fun n m hn hm {Q H} h=>by
 apply DA;dsimp only [aA,bk,aC,ah,ac,aI];refine gE hn ⟨_,rfl,?_⟩;rw [a0p,a0f];refine gE hm ⟨_,rfl,?_⟩;rw [a0p,a0f];obtain ⟨c1,c2⟩:=Ez hn hm;have e:IntKind.wrap .i64 (n*m)=n*m:=ao (by omega) (by omega);unfold iG at h;rw [fG,e] at h;rw [e];exact lZ (by omega) (by omega) ⟨_,rfl,h⟩
def C4 (n m:Int):Int:=if Int.tmod n m≠0∧((n<0)≠(m<0)) then Int.tdiv n m-1 else Int.tdiv n m
theorem nI {n m:Int} (hn:kx n):-1073741824<=Int.tdiv n m∧Int.tdiv n m<=1073741824:=by
 obtain ⟨a1,a2⟩:=hn;have h1:(Int.tdiv n m).natAbs=n.natAbs / m.natAbs:=Int.natAbs_tdiv n m;have h2:n.natAbs / m.natAbs<=n.natAbs:=Nat.div_le_self _ _;rw [←h1] at h2;omega
theorem mI {n m:Int} (hn:kx n) (hm:m≠0){Q:QT}{H:au} (h:Q (ac (C4 n m)) H):ag PP 366 #[ac n,ac m] Q H:=by
 have hb:=nI (m:=m) hn;apply D9;dsimp only [ah,aX,ac,ax,aI];rw [ae,a0a hm,ae,a0a hm,bn,ae];unfold C4 at h;have e:IntKind.wrap .i64 (Int.tdiv n m)=Int.tdiv n m:=ao (by omega) (by omega);refine aD (fun h1=>?_) fun h1=>?_
 ·by_cases h2:(n<0)≠(m<0)
  ·rw [a0b ⟨h1,h2⟩] at h
   have:(!(decide (n<0) == decide (m<0)))=true:=by
    rw [a3x,beq_eq_false_iff_ne];intro e;exact h2 (by rw [←decide_eq_true_eq (p:=n<0),←decide_eq_true_eq (p:=m<0),e])
   rw [this,a0P,e,ao (by omega) (by omega)];exact h
  ·rw [a0a (fun e=>h2 e.2)] at h;have h2:=a0v h2
   have:(!(decide (n<0) == decide (m<0)))=false:=by
    simp [h2]
   rw [this,a0f,e];exact h
 ·rw [a0a (fun e=>h1 e.1)] at h;rw [e];exact h
theorem Cs {n m:Int} (h:Int.tmod n m≠0):(Int.tmod n m<0)=(n<0):=by
 rw [eq_iff_iff];rcases a4B n 0 with hn | hn
 ·have h1:0<=Int.tmod (-n) m:=a4H m (by omega);rw [a4t] at h1;omega
 ·have:=a4H m hn;omega
theorem rE {n m:Int} (hn:kx n) (hm:kx m) (h0:m≠0):jv n m=(jL (C4 n m),n-C4 n m*m,0):=by
 have hb:=nI (m:=m) hn;have hr:=mW (n:=n) h0;have hd:=Int.tmod_add_mul_tdiv n m;obtain ⟨b1,b2⟩:=hm;unfold jv C4;rw [a0a h0];by_cases h1:Int.tmod n m≠0
 ·have Zw:=Cs h1;by_cases h2:(n<0)≠(m<0)
  ·rw [a0b (c:=Int.tmod n m≠0∧((Int.tmod n m<0)≠(m<0))) ⟨h1,by rw [Zw];exact h2⟩,a0b ⟨h1,h2⟩,fG,ji];have e:IntKind.wrap .i64 (Int.tdiv n m)=Int.tdiv n m:=ao (by omega) (by omega);have e2:IntKind.wrap .i64 (Int.tmod n m+m)=Int.tmod n m+m:=by
    rcases a4j h0 with h3 | h3
    ·have:=hr.2 h3;exact ao (by omega) (by omega)
    ·have:=hr.1 h3;exact ao (by omega) (by omega)
   rw [e,e2];have e3:n-(Int.tdiv n m-1)*m=Int.tmod n m+m:=by
    rw [Int.sub_mul,Int.one_mul,a3i (Int.tdiv n m) m];omega
   rw [e3]
  ·rw [a0a (c:=Int.tmod n m≠0∧((Int.tmod n m<0)≠(m<0))) (fun e=>h2 (by have:=e.2;rw [Zw] at this;exact this)),a0a (fun e=>h2 e.2),fG,ji];have e3:n-Int.tdiv n m*m=Int.tmod n m:=by
    rw [a3i (Int.tdiv n m) m];omega
   rw [e3]
 ·rw [a0a (fun e=>h1 e.1),a0a (fun e=>h1 e.1),fG,ji];have e3:n-Int.tdiv n m*m=Int.tmod n m:=by
   rw [a3i (Int.tdiv n m) m];omega
  rw [e3]
theorem Kv:td 327 gO:=fun n m hn hm {Q H} h=>by
 apply FO;dsimp only [aA,bk,aC,ah,ac];refine gE hn ⟨_,rfl,?_⟩;rw [a0p,a0f];refine gE hm ⟨_,rfl,?_⟩;rw [a0p,a0f,bq,ae];have hb:=nI (m:=m) hn;refine aD (fun h0=>?_) fun h0=>mI hn h0 ⟨_,rfl,lZ ?_ ?_ ⟨_,rfl,?_⟩⟩
 ·unfold gO jv at h;rw [a0b h0] at h;exact h
 ·unfold C4;split <;> omega
 ·unfold C4;split <;> omega
 ·unfold gO at h;rw [rE hn hm h0] at h;exact h
theorem DD:td 328 gt:=fun n m hn hm {Q H} h=>by
 apply Gk;dsimp only [aA,bk,aC,ah,ac,aI];refine gE hn ⟨_,rfl,?_⟩;rw [a0p,a0f];refine gE hm ⟨_,rfl,?_⟩;rw [a0p,a0f,bq,ae];have hb:=nI (m:=m) hn;refine aD (fun h0=>?_) fun h0=>mI hn h0 ⟨_,rfl,?_⟩
 ·unfold gt jv at h;rw [a0b h0] at h;exact h
 ·have Jk:=BF n m hn hm (by unfold gt;rw [rE hn hm h0]);unfold gt at h Jk;rw [rE hn hm h0] at h Jk;simp only at h Jk;obtain ⟨a1,a2⟩:=hn;obtain ⟨c1,c2⟩:=Jk;rw [ao (n:=C4 n m*m) (by omega) (by omega),ao (by omega) (by omega)];exact h
theorem oo (one both:Bool):∀ (n:Nat) (x y:Int),0<=fV one both n x y∧fV one both n x y<((2 ^ n:Nat):Int)
 | 0,_,_=>⟨a1F _,by simp [fV]⟩
 | n+1,x,y=>by
  have ih:=oo one both n (x / 2) (y / 2);unfold fV;have hb:jr one both (x % 2) (y % 2)=0∨jr one both (x % 2) (y % 2)=1:=by
   unfold jr;split
   ·exact .inr rfl
   ·exact .inl rfl
  rw [a3H];omega
theorem LG:((2 ^ 31:Nat):Int)=2147483648:=by decide
theorem xo {n m:Int} (hn:kx n) (hm:kx m){one both:Bool}{Q:QT}{H:au} (h:Q (ac (jL (fV one both 31 (n % 2147483648) (m % 2147483648)))) H) :
  ag PP 367 #[ac n,ac m,.bool one,.bool both] Q H:=by
 obtain ⟨a1,a2⟩:=hn;obtain ⟨b1,b2⟩:=hm;apply GI;dsimp only [aC,ah,aX,ac,uI,bm,ax,aI];refine wS (by omega) (by omega) ⟨_,rfl,wS (by omega) (by omega) ⟨_,rfl,?_⟩⟩;have Ua:0<=n % 2147483648∧n % 2147483648<2147483648:=by omega
 have JQ:0<=m % 2147483648∧m % 2147483648<2147483648:=by omega
 generalize n % 2147483648=X at h Ua ⊢;generalize m % 2147483648=Y at h JQ ⊢;have hT:=oo one both 31 X Y;rw [LG] at hT;generalize hTe:fV one both 31 X Y=T at h hT;refine ⟨fun w H'=>H'=H∧∃(i:Nat) (x y r:Int),w=[ac x,ac y,ac r,ac ((2 ^ i:Nat):Int),ac (i:Int)]∧i<=31∧0<=x∧x<=2147483648∧0<=y∧y<=2147483648∧0<=r∧r+((2 ^ i:Nat):Int)*fV one both (31-i) x y=T,fun w _=>match w with
  | [_,_,_,_,.int _ i]=>(31-i).toNat
  | _=>0,⟨rfl,0,X,Y,0,rfl,by decide,Ua.1,by omega,JQ.1,by omega,a1F _,by simp [hTe]⟩,?_⟩
 rintro w H3 ⟨rfl,i,x,y,r,rfl,hi,x0,x1,y0,y1,r0,hr⟩ _;refine ⟨_,_,_,_,_,rfl,?_⟩;rw [ae];have hp:((2 ^ i:Nat):Int)<=2147483648:=by
  rw [←LG]
  exact_mod_cast a2K (by decide) hi
 have hp0:0<((2 ^ i:Nat):Int):=by exact_mod_cast a31 i
 refine aD (fun an=>?_) fun JR=>?_
 ·have hmx:Int.tmod x 2=x % 2:=a2v x0;have hmy:Int.tmod y 2=y % 2:=a2v y0;have hdx:Int.tdiv x 2=x / 2:=a2y x0;have hdy:Int.tdiv y 2=y / 2:=a2y y0;rw [hmx,hmy,hdx,hdy,ao (n:=x % 2+y % 2) (by omega) (by omega),ao (n:=x / 2) (by omega) (by omega),ao (n:=y / 2) (by omega) (by omega),ao (n:=2*((2 ^ i:Nat):Int)) (by omega) (by omega),ao (n:=(i:Int)+1) (by omega) (by omega)];have s8:fV one both (31-i) x y=jr one both (x % 2) (y % 2)+2*fV one both (31-(i+1)) (x / 2) (y / 2):=by
   rw [show 31-i=(31-(i+1))+1 by omega];rfl
  have Zx:((2 ^ (i+1):Nat):Int)=2*((2 ^ i:Nat):Int):=by rw [a3H];push_cast;omega
  have hE:=oo one both (31-(i+1)) (x / 2) (y / 2);obtain ⟨E,hEe⟩:∃ E,fV one both (31-(i+1)) (x / 2) (y / 2)=E:=⟨_,rfl⟩;rw [hEe] at s8 hE;rw [s8,Int.mul_add,←Int.mul_assoc,a3i _ 2,←Zx] at hr;have VQ:0<=((2 ^ (i+1):Nat):Int)*E:=Int.mul_nonneg (by omega) hE.1;have step:∀ r',0<=r'->r'+((2 ^ (i+1):Nat):Int)*fV one both (31-(i+1)) (x / 2) (y / 2)=T->(H3=H3∧∃(i2:Nat) (x2 y2 r2:Int),[Value.int .i64 (x / 2),ac (y / 2),ac r',ac (2*((2 ^ i:Nat):Int)),ac ((i:Int)+1)]=[ac x2,ac y2,ac r2,ac ((2 ^ i2:Nat):Int),ac (i2:Int)]∧i2<=31∧0<=x2∧x2<=2147483648∧0<=y2∧y2<=2147483648∧0<=r2∧r2+((2 ^ i2:Nat):Int)*fV one both (31-i2) x2 y2=T)∧(31-((i:Int)+1)).toNat<(31-(i:Int)).toNat:=fun r' h0 X2 =>
   ⟨⟨rfl,i+1,_,_,r',by rw [Zx];rfl,by omega,by omega,by omega,by omega,by omega,h0,X2⟩,by omega⟩
  rw [hEe] at step;have no:jr one both (x % 2) (y % 2)=0->_:=fun e=>step r r0 (by rw [e] at hr;omega);have yes:jr one both (x % 2) (y % 2)=1->_:=fun e=>step (r+((2 ^ i:Nat):Int)) (by omega) (by rw [e] at hr;omega);have HS:jr one both (x % 2) (y % 2)=1->r+((2 ^ i:Nat):Int)<=T:=fun e=>by rw [e] at hr;omega
  have SZ:x % 2+y % 2=0∨x % 2+y % 2=1∨x % 2+y % 2=2:=by omega
  rcases SZ with e | e | e
  ·have hb:jr one both (x % 2) (y % 2)=0:=by unfold jr;rw [e];simp
   rw [e];rw [show ((0:Int) == 1)=false from rfl,a0f,show ((0:Int) == 2)=false from rfl,a0f];exact no hb
  ·rw [e];rw [show ((1:Int) == 1)=true from rfl,a0P];cases one with
   | true =>
    have hb:jr true both (x % 2) (y % 2)=1:=by unfold jr;rw [e];simp
    have:=HS hb;rw [a0P,ao (by omega) (by omega)];exact yes hb
   | false =>
    have hb:jr false both (x % 2) (y % 2)=0:=by unfold jr;rw [e];simp
    rw [a0f,show ((1:Int) == 2)=false from rfl,a0f];exact no hb
  ·rw [e];rw [show ((2:Int) == 1)=false from rfl,a0f,show ((2:Int) == 2)=true from rfl,a0P];cases both with
   | true =>
    have hb:jr one true (x % 2) (y % 2)=1:=by unfold jr;rw [e];simp
    have:=HS hb;rw [a0P,ao (by omega) (by omega)];exact yes hb
   | false =>
    have hb:jr one false (x % 2) (y % 2)=0:=by unfold jr;rw [e];simp
    rw [a0f];exact no hb
 ·have:i=31:=by omega
  subst this;simp only [fV,a4b,Int.mul_zero,a4w] at hr;subst hr;exact lZ (by omega) (by omega) ⟨_,rfl,h⟩
theorem Hl:td 329 iJ:=fun n m hn hm {Q H} h=>by
 apply Kp;dsimp only [aA,aP,bk,aC,ah,ac];refine gE hn ⟨_,rfl,?_⟩;rw [a0p,a0f];refine gE hm ⟨_,rfl,?_⟩;rw [a0p,a0f];unfold iJ at h;rw [fG,BP] at h;exact xo hn hm ⟨_,rfl,h⟩
theorem NC:td 330 pu:=fun n m hn hm {Q H} h=>by
 apply Ek;dsimp only [aA,aP,bk,aC,ah,ac];refine gE hn ⟨_,rfl,?_⟩;rw [a0p,a0f];refine gE hm ⟨_,rfl,?_⟩;rw [a0p,a0f];unfold pu at h;rw [fG,EW] at h;exact xo hn hm ⟨_,rfl,h⟩
theorem IE:td 331 iy:=fun n m hn hm {Q H} h=>by
 apply GV;dsimp only [aA,aP,bk,aC,ah,ac];refine gE hn ⟨_,rfl,?_⟩;rw [a0p,a0f];refine gE hm ⟨_,rfl,?_⟩;rw [a0p,a0f];unfold iy at h;rw [fG,B5] at h;exact xo hn hm ⟨_,rfl,h⟩
theorem NG (n:Int) (k:Nat) (hk:k<=31):iL .i64 n (k:Int)=n / ((2 ^ k:Nat):Int):=lW n k (by omega)
theorem Dv (n:Int) (k:Nat) (hk:k<=31):jL (fu .i64 n (k:Int))=jL (n*((2 ^ k:Nat):Int)):=by
 have e:fu .i64 n (k:Int)=IntKind.wrap .i64 (n*((2 ^ k:Nat):Int)):=by
  unfold fu
  have:min (Int.toNat (k:Int)) (IntKind.bits .i64)=k:=by simp only [a0j,IntKind.bits];omega
  rw [this]
  push_cast
  rfl
 rw [e,ji]
theorem Le {n:Int}:C4 n 2=n / 2:=by
 have htm:=kS n 2;unfold C4;split
 ·rename_i h;have h1:=h.1;have h2:=h.2
  have:n<0:=a0v fun e=>h2 (by rw [eq_iff_iff];constructor <;> omega);omega
 ·rename_i h;by_cases h1:Int.tmod n 2=0
  ·omega
  ·have:¬ n<0:=fun e=>h ⟨h1,by rw [a3Q,eq_iff_iff];omega⟩;omega
theorem yy {n:Int} (hn:kx n) (k:Nat):kx (n / ((2 ^ k:Nat):Int)):=by
 obtain ⟨a1,a2⟩:=hn;have hp:1<=((2 ^ k:Nat):Int):=by exact_mod_cast a31 k
 constructor
 ·exact Int.le_trans (by omega) (Int.le_ediv_of_mul_le (a:=-1073741824) (by omega) (by
   have:(-1073741824:Int)*((2 ^ k:Nat):Int)<=-1073741824:=by omega
   omega))
 ·rcases a4B n 0 with h | h
  ·have:=Int.ediv_neg_of_neg_of_pos (b:=((2 ^ k:Nat):Int)) h (by omega);omega
  ·have:=Int.ediv_le_self ((2 ^ k:Nat):Int) h;omega
theorem Ae:td 332 dp:=fun n m hn hm {Q H} h=>by
 apply Hp;dsimp only [aA,bk,aC,ah,bP,aX,ac,js,bm,aI];refine gE hn ⟨_,rfl,?_⟩;rw [a0p,a0f];refine gE hm ⟨_,rfl,?_⟩;rw [a0p,a0f];have OC:=hm;obtain ⟨b1,b2⟩:=OC;have down:∀ {H':au} (a:Int),(0<=m->a=jL (n*((2 ^ (min m 31).toNat:Nat):Int)))->(m<0->a=n)->H'=H->∃(I13:List Value->au->Prop) (μ13:List Value->au->Nat),I13 [ac a,ac 0] H'∧∀ w14 H5,I13 w14 H5->∀ _g:Nat->Value,∃ n15:Int,∃ n16:Int,w14=[ac n15,ac n16]∧cond (decide (n16 > m)) (cond (decide (n16 > (-31))) (ag PP 366 #[ac n15,ac 2] (fun v17 H6=>∃ n18:Int,v17=ac n18∧I13 [ac n18,ac (IntKind.wrap .i64 (n16-1))] H6∧μ13 [ac n18,ac (IntKind.wrap .i64 (n16-1))] H6<μ13 w14 H5) H5) (Q (.tuple #[ac n15,ac 0]) H5)) (Q (.tuple #[ac n15,ac 0]) H5):=by
  intro H' a ha hb he;subst he;refine ⟨fun w H6=>H6=H'∧∃(i:Nat),w=[ac (a / ((2 ^ i:Nat):Int)),ac (-(i:Int))]∧i<=31∧(0<i->m<0∧(i:Int)<=-m),fun w _=>match w with
   | [_,.int _ i]=>(31+i).toNat
   | _=>0,⟨rfl,0,by simp,by decide,fun h=>absurd h (a2B _)⟩,?_⟩
  rintro w H5 ⟨rfl,i,rfl,hi,him⟩ _;refine ⟨_,_,rfl,?_⟩;have fin:(0<=m∨i=31∨(i:Int)=-m)->Q (.tuple #[ac (a / ((2 ^ i:Nat):Int)),ac 0]) H5:=fun hc=>by
   unfold dp at h;by_cases Sh:m<0
   ·rw [a0b Sh] at h;have e0:IntKind.wrap .i64 (0-(if m < -31 then -31 else m))=(i:Int):=by
     split
     ·rw [ao (by omega) (by omega)];omega
     ·rw [ao (by omega) (by omega)];omega
    rw [e0,fG,NG n i hi] at h;obtain ⟨c1,c2⟩:=yy hn i;rw [CF c1 c2] at h;rw [hb Sh];exact h
   ·have i0:i=0:=a0v fun e=>by have:=him (by omega);omega
    subst i0;rw [a0a Sh,fG] at h;have e0:(if 31<m then (31:Int) else m)=(((min m 31).toNat:Nat):Int):=by split <;> omega
    rw [e0,Dv n _ (by omega),←ha (by omega)] at h;simpa using h
  rw [ae];refine aD (fun h1=>?_) fun h1=>fin (by omega);rw [ae];refine aD (fun h2=>?_) fun h2=>fin (by omega);have Sx:kx (a / ((2 ^ i:Nat):Int)):=by rw [hb (by omega)];exact yy hn i
  refine mI Sx (by decide) ⟨_,rfl,?_⟩;rw [Le,Cb,ao (by omega) (by omega)];exact ⟨⟨rfl,i+1,by simp;omega,by omega,fun _=>⟨by omega,by omega⟩⟩,by show (31+(-(i:Int)-1)).toNat<(31+-(i:Int)).toNat;omega⟩
 refine ⟨fun w H'=>H'=H∧∃(i:Nat) (a:Int),w=[ac a,ac (i:Int)]∧i<=31∧((i:Int)<=m∨i=0)∧kx a∧(i=0->a=n)∧a=jL (n*((2 ^ i:Nat):Int)),fun w _=>match w with
  | [_,.int _ i]=>(31-i).toNat
  | _=>0,⟨rfl,0,n,rfl,by decide,.inr rfl,hn,fun _=>rfl,by simp;exact (CF hn.1 hn.2).symm⟩,?_⟩
 rintro w H3 ⟨rfl,i,a,rfl,hi,him,Jk,ha0,ha⟩ _;refine ⟨_,_,rfl,?_⟩;have dn:(0<=m->i=(min m 31).toNat)->(m<0->i=0)->_:=fun h1 h2=>down (H':=H3) a (fun h0=>by rw [←h1 h0];exact ha) (fun h0=>ha0 (h2 h0)) rfl;rw [ae];refine aD (fun h1=>?_) fun h1=>dn (by omega) (by omega);rw [ae];refine aD (fun h2=>?_) fun h2=>dn (by omega) (by omega);obtain ⟨c1,c2⟩:=Jk;rw [ao (n:=2*a) (by omega) (by omega),ao (n:=(i:Int)+1) (by omega) (by omega)];refine lZ (by omega) (by omega) ⟨_,rfl,⟨rfl,i+1,_,rfl,by omega,by omega,Nm _,fun h=>absurd h (Nat.succ_ne_zero i),?_⟩,by simp;omega⟩;rw [ha,Im]
section
attribute [local irreducible] bL cy cH iF fD iG gO gt iJ pu iy dp dA
section
variable {H:au}{b:Nat}{F:aS}{s:SP}{t:TB}{v:KV}{G:Int->Prop}{Q:QT}{r x y:Int}{ar:List Int}{n:Int}{p:PF}{sel:ByteArray}
theorem QJ (hK:RK H b F s t) (hv:KAllW s t v) (hk:aU r=2) (hx:x=ar.getD 0 0)
  (K:DR H b F s t v r ar (jq p) Q) (hm:(sel,n,p)∈qW):ag PP 134 #[dv b r x y,.string sel] Q H:=by
 obtain ⟨m,er,m0,m1⟩:∃ m,r=4*m+2∧0<=m∧m<4096:=⟨r / 4,by have:=bE r;omega⟩;have zw:=sj hv m;have et:=jX (s:=s) (t:=t) ⟨m0,m1⟩;subst er;subst hx;apply EK;dsimp only [aL,aN,aA,aP,bk,aC,eI,ah,ak,ay,aF,ac,am,aJ,aO,ax];have f:=Fr.push [] H (.cells (dc b (4*m+2) (ar.getD 0 0) y) 191);have hb:=bI.new H (dc b (4*m+2) (ar.getD 0 0) y) 191;have An:=hK.nil f;generalize (H.push (.cells (dc b (4*m+2) (ar.getD 0 0) y) 191))=H0 at f hb An ⊢;refine ⟨_,hb.cell 0,_,hb.cell 1,sI An ⟨m0,m1⟩ ⟨_,rfl,?_⟩⟩;simp only [qW,a0E,Prod.mk.injEq,a1l,a2h] at hm;rcases hm with ⟨rfl,rfl,rfl⟩ | ⟨rfl,rfl,rfl⟩ | ⟨rfl,rfl,rfl⟩
 all_goals repeat refine bQ (fun e=>absurd e (by decide)) fun _=>?_
 ·refine bQ (fun _=>?_) fun e=>absurd rfl e;have K':DR H b F s t v (4*m+2) ar .len Q:=K;simp only [DR,bS,et] at K';rw [kP (by omega) (by omega)] at K';exact dW ⟨by omega,by omega⟩ ⟨_,rfl,K' _ F An (Up.of_nil f)⟩
 ·refine bQ (fun _=>?_) fun e=>absurd rfl e;have K':DR H b F s t v (4*m+2) ar .asStr Q:=K;simp only [DR,bS,C3,et] at K';exact ⟨_,hb.cell 0,uq An hv (by omega) fun H' F' w8 u=>⟨_,_,rfl,K' H' F' w8 (eZ f u)⟩⟩
 ·have K':DR H b F s t v (4*m+2) ar .symLess Q:=K;simp only [DR,bS,et] at K';refine ⟨_,hb.cell 2,qZ ⟨_,rfl,?_⟩⟩;by_cases h2:aU (ar.getD 0 0)=2
  ·rw [a00 h2,a0p,a0f];rw [a0a (by simpa using h2)] at K';obtain ⟨m',e',m0',m1'⟩:∃ m',ar.getD 0 0=4*m'+2∧0<=m'∧m'<4096:=⟨ar.getD 0 0 / 4,by have:=bE (ar.getD 0 0);omega⟩;rw [e',jX (s:=s) ⟨m0',m1'⟩] at K';have k8:=hb.cell 2;refine ⟨_,hb.cell 0,_,k8,?_⟩;rw [e'];exact sI An ⟨m0',m1'⟩ ⟨_,rfl,cz ⟨_,_,rfl,K' _ F An (Up.of_nil f)⟩⟩
  ·rw [a09 h2,a0C,a0P];rw [a0b h2] at K';exact K' _ F An (Up.of_nil f)
theorem P2 (hK:RK H b F s t) (hv:KAllW s t v) (hs:oh s r) (SL:∀ w∈ar,cK s.h w=10->oh s w) (hx:x=ar.getD 0 0) (hy:y=ar.getD 1 0)
  (K:DR H b F s t v r ar (jq p) Q) (hm:(sel,n,p)∈mD) (hn:(ar.length:Int)=n):ag PP 135 #[dv b r x y,.string sel] Q H:=by
 obtain ⟨k,z,rfl,hs,hz⟩:=hs;obtain ⟨k1,k2⟩:=ju hv hs;have OB:dL (4*k):=dN k1 k2;have D0:=ik z;have et:=ii (t:=t) hs k1 k2;subst hx hy;apply HO;dsimp only [aL,aN,aA,aP,bk,aC,eI,ah,ak,bP,aX,ay,aF,aZ,ac,aE,am,aJ,aO,ax,jb,aI];have f:=Fr.push [] H (.cells (dc b (4*k) (ar.getD 0 0) (ar.getD 1 0)) 191);have hb:=bI.new H (dc b (4*k) (ar.getD 0 0) (ar.getD 1 0)) 191;have An:=hK.nil f;generalize (H.push (.cells (dc b (4*k) (ar.getD 0 0) (ar.getD 1 0)) 191))=H0 at f hb An ⊢;refine ⟨_,hb.cell 0,_,hb.cell 1,nG An hs k1 k2 (by omega) fun H1 f1=>⟨_,rfl,?_⟩⟩;have f01:=f.trans f1;have cj:=hb.fr f1 (by simp);have s5:=An.nil f1;have Tx:H.size∉F:=fun hm=>by have:=hK.lt _ hm;omega
 refine ⟨_,cj.cell 0,_,cj.cell 2,oT s5 hv ⟨_,rfl,?_⟩⟩;have other:cK s.h (ar.getD 0 0)=10->ar.length=1->∃ j u,ar.getD 0 0=4*j∧mR s.h j (bN u)∧1<=j∧j<=65536∧u.size<=8192∧ee s.h t (ar.getD 0 0)=u:=fun qz hl=>by
  obtain ⟨j,u,e,hu,ZF⟩:=SL (ar.getD 0 0) (by match ar,hl with | [a],_=>simp) qz;obtain ⟨j1,j2⟩:=ju hv hu;exact ⟨j,u,e,hu,j1,j2,ZF,by rw [e];exact ii hu j1 j2⟩
 simp only [mD,a0E,Prod.mk.injEq,a1l,a2h] at hm;rcases hm with ⟨rfl,rfl,rfl⟩ | ⟨rfl,rfl,rfl⟩ | ⟨rfl,rfl,rfl⟩ | ⟨rfl,rfl,rfl⟩ | ⟨rfl,rfl,rfl⟩ | ⟨rfl,rfl,rfl⟩ | ⟨rfl,rfl,rfl⟩ | ⟨rfl,rfl,rfl⟩
 all_goals repeat refine bQ (fun e=>absurd e (by decide)) fun _=>?_
 ·refine bQ (fun _=>?_) fun e=>absurd rfl e;have K':DR H b F s t v (4*k) ar .size Q:=K;simp only [DR,bS,km hs k1 k2,D0] at K';rw [kP (by omega) (by omega)] at K';exact dW ⟨by omega,by omega⟩ ⟨_,rfl,K' _ F s5 (Up.of_nil f01)⟩
 ·refine bQ (fun _=>?_) fun e=>absurd rfl e;have K':DR H b F s t v (4*k) ar .empty Q:=K;simp only [DR,bS,km hs k1 k2,D0] at K';refine cz ⟨_,_,rfl,?_⟩;rw [bq];exact K' _ F s5 (Up.of_nil f01)
 ·refine bQ (fun _=>?_) fun e=>absurd rfl e;have K':DR H b F s t v (4*k) ar .byteAt Q:=K;simp only [DR,bS] at K';unfold sR at K';rw [km hs k1 k2] at K';simp only [D0] at K';refine ⟨_,cj.cell 0,_,cj.cell 1,_,cj.cell 2,_,cj.cell 3,ql fun H2 f2=>⟨_,_,rfl,?_⟩⟩;have f02:=f01.trans f2;rw [bn,ae];refine aD (fun h0=>?_) fun h0=>?_
  ·rw [a0b h0] at K';exact K' _ F (s5.nil f2) (Up.of_nil f02)
  ·rw [a0a h0] at K';obtain ⟨i0,i1⟩:=jT (a0v h0);generalize (bG (z.size:Int) (ar.getD 0 0)).1=i at i0 i1 K' ⊢;obtain ⟨i,rfl⟩:=a3L i0;have ui:i<z.size:=by omega
   have hu:=(z[i]).toNat_lt;have Vr:(bN z).getD i 0=((z[i]).toNat:Int):=by
    unfold bN;rw [a1f,a2s,a2C]
    have:z.data[i]?=some z[i]:=by
     have h1:i<z.data.size:=ui;rw [a3g h1];rfl
    rw [this];rfl
   rw [qv hs k1 k2 (by omega),Vr,kP (by omega) (by omega)] at K';refine ⟨z[i],⟨i0,by rw [a0j];simp [ui]⟩,?_⟩;rw [ao (by omega) (by omega)];exact dW ⟨by omega,by omega⟩ ⟨_,rfl,K' _ F (s5.nil f2) (Up.of_nil f02)⟩
 ·refine bQ (fun _=>?_) fun e=>absurd rfl e;have K':DR H b F s t v (4*k) ar .bytePut Q:=K;simp only [DR,bS,km hs k1 k2,D0] at K';have bad:aU (ar.getD 0 0)≠1∨aU (ar.getD 1 0)≠1∨ar.getD 1 0 / 2<0∨255<ar.getD 1 0 / 2->Q (.tuple #[ac 0,ac 170]) H1:=fun hc=>by
   rw [a0b hc] at K';exact K' _ F s5 (Up.of_nil f01)
  refine ⟨_,cj.cell 2,dd ⟨_,rfl,?_⟩⟩;by_cases g1:aU (ar.getD 0 0)=1
  case neg =>
   rw [a09 g1,a0C,a0P];exact bad (.inl g1)
  rw [a00 g1,a0p,a0f];refine ⟨_,cj.cell 3,dd ⟨_,rfl,?_⟩⟩;by_cases g2:aU (ar.getD 1 0)=1
  case neg =>
   rw [a09 g2,a0C,a0P];exact bad (.inr (.inl g2))
  rw [a00 g2,a0p,a0f];have en:=(gu g2).2.2;refine ⟨_,cj.cell 3,cn ⟨_,rfl,?_⟩⟩;rw [en,ae];refine aD (fun g3=>bad (.inr (.inr (.inl g3)))) fun g3=>⟨_,cj.cell 3,cn ⟨_,rfl,?_⟩⟩;rw [en,ae];refine aD (fun g4=>bad (.inr (.inr (.inr g4)))) fun g4=>?_;rw [a0a (by simp only [a21];exact ⟨by simpa using g1,by simpa using g2,g3,g4⟩)] at K';refine ⟨_,cj.cell 0,_,cj.cell 1,_,cj.cell 2,_,cj.cell 3,ql fun H2 f2=>⟨_,_,rfl,?_⟩⟩;have f02:=f01.trans f2;have k8:=cj.fr f2 (by simp);rw [bn,ae];refine aD (fun h0=>?_) fun h0=>?_
  ·rw [a0b h0] at K';exact K' _ F (s5.nil f2) (Up.of_nil f02)
  rw [a0a h0] at K';obtain ⟨i0,i1⟩:=jT (a0v h0);generalize (bG (z.size:Int) (ar.getD 0 0)).1=i at i0 i1 K' ⊢;obtain ⟨i,rfl⟩:=a3L i0;have hp0:(s.putW (4*k) (i:Int) (ar.getD 1 0 / 2)).1=0:=by
   unfold SP.putW;rw [iH k1 k2];exact (He hs (i:=i) (by omega) (by omega) (by omega)).1
  rw [hp0] at K';obtain ⟨sb,hp,hc,c0,eo,O7⟩:=wQ (w:=4*k) (i:=(i:Int)) (z:=ar.getD 1 0 / 2) (s5.nil f2) OB (R:=fun _ _=>True) (Q:=fun v59 H14=>∃ n60:Int,v59=ac n60∧True∧∃ n61:Int,aq H14 ((⟨H.size,0,none⟩:Addr).add 3)=some (ac n61)∧Q (.tuple #[ac n61,ac 0]) H14) fun H' F' w8 u=>by
   have Ju:=k8.fr u.1 Tx;exact ⟨_,rfl,trivial,_,Ju.cell 3,K' H' F' w8 (eZ f02 u)⟩
  refine ⟨_,k8.cell 0,_,rfl,_,hc,_,rfl,_,c0,_,k8.cell 1,_,k8.cell 3,cR (iX OB) ⟨_,rfl,⟨⟨k8.cell 3,trivial⟩,⟨c0,trivial⟩,⟨hc,trivial⟩,⟨k8.cell 0,trivial⟩,trivial⟩,cn ⟨_,rfl,⟨⟨c0,trivial⟩,⟨hc,trivial⟩,⟨k8.cell 0,trivial⟩,trivial⟩,?_⟩⟩⟩;rw [eo,en];exact O7
 ·
  have K':DR H b F s t v (4*k) ar .join Q:=K;simp only [DR,bS,et] at K';by_cases qz:cK s.h (ar.getD 0 0)=10
  case neg =>
   rw [bq,a09 qz,a0C,a0P];rw [a0b qz] at K';exact K' _ F s5 (Up.of_nil f01)
  rw [bq,a00 qz,a0p,a0f];rw [a0a (by simpa using qz)] at K';obtain ⟨j,u,e,hu,j1,j2,ZF,etu⟩:=other qz (by omega);rw [etu] at K';refine ⟨_,cj.cell 0,_,cj.cell 2,?_⟩;rw [e];refine nG s5 hu j1 j2 (by omega) fun H2 f2=>⟨_,rfl,?_⟩;have f02:=f01.trans f2;have k8:=cj.fr f2 (by simp);refine bQ (fun e=>absurd e (by decide)) fun _=>?_;rw [ao (by omega) (by omega),ae];refine aD (fun hg=>?_) fun HS=>?_
  ·rw [a0b (by omega)] at K';exact K' _ F (s5.nil f2) (Up.of_nil f02)
  rw [a0a (by omega)] at K';refine ⟨_,k8.cell 0,?_⟩;rw [ae,a0a (by rw [show IntKind.i64.max=9223372036854775807 from rfl];omega)];exact uq (s5.nil f2) hv (by rw [a3X];omega) fun H' F' w8 u=>⟨_,_,rfl,K' H' F' w8 (eZ f02 u)⟩
 ·refine bQ (fun _=>?_) fun e=>absurd rfl e;have K':DR H b F s t v (4*k) ar .eq Q:=K;simp only [DR,bS,et] at K';rw [bq,ae];refine aD (fun qz=>?_) fun qz=>?_
  ·obtain ⟨j,u,e,hu,j1,j2,ZF,etu⟩:=other qz (by omega);rw [a00 qz,a4m,etu] at K';refine ⟨_,cj.cell 0,_,cj.cell 2,?_⟩;rw [e];refine nG s5 hu j1 j2 (by omega) fun H2 f2=>⟨_,rfl,cz ⟨_,_,rfl,?_⟩⟩;have ec:bO u z=bO z u:=by rw [cV,cV];exact decide_eq_decide.2 ⟨Eq.symm,Eq.symm⟩
   rw [ec];exact K' _ F (s5.nil f2) (Up.of_nil (f01.trans f2))
  ·rw [a09 qz,a3I] at K';exact cz ⟨_,_,rfl,K' _ F s5 (Up.of_nil f01)⟩
 ·
  have K':DR H b F s t v (4*k) ar .less Q:=K;simp only [DR,bS,et] at K';by_cases qz:cK s.h (ar.getD 0 0)=10
  case neg =>
   rw [bq,a09 qz,a0C,a0P];rw [a0b qz] at K';exact K' _ F s5 (Up.of_nil f01)
  rw [bq,a00 qz,a0p,a0f];rw [a0a (by simpa using qz)] at K';obtain ⟨j,u,e,hu,j1,j2,ZF,etu⟩:=other qz (by omega);rw [etu] at K';refine ⟨_,cj.cell 0,_,cj.cell 2,?_⟩;rw [e];refine nG s5 hu j1 j2 (by omega) fun H2 f2=>⟨_,rfl,?_⟩;refine bQ (fun _=>?_) fun e=>absurd rfl e;exact cz ⟨_,_,rfl,K' _ F (s5.nil f2) (Up.of_nil (f01.trans f2))⟩
 ·refine bQ (fun _=>?_) fun e=>absurd rfl e;have K':DR H b F s t v (4*k) ar .asSym Q:=K;simp only [DR,bS,et] at K';have bad:z.size<1∨96<z.size->Q (.tuple #[ac 0,ac 170]) H1:=fun hc=>by
   rw [a0b hc] at K';exact K' _ F s5 (Up.of_nil f01)
  rw [ae];refine aD (fun h1=>bad (.inl (by omega))) fun h1=>?_;rw [ae];refine aD (fun h2=>bad (.inr (by omega))) fun h2=>?_;rw [a0a (by omega)] at K';obtain ⟨tb,F2,hc,hT,ff,I2,s6⟩:=s5.tb;refine ⟨_,cj.cell 0,_,rfl,_,hc,xr hT fun H2 F3 So u2=>⟨_,_,rfl,?_⟩⟩;obtain ⟨F',JP,u3⟩:=s6 H2 F3 _ So u2;have hq:=K' H2 F' JP (eZ f01 u3);rw [bn,ae];refine aD (fun e0=>?_) fun e0=>?_
  ·rw [a0b e0] at hq;exact hq
  rw [a0a e0] at hq;obtain ⟨m,e1,e2,_⟩:=kH z (a0v e0);have TN:=(a3s.1 e2).1;have OJ:=(tV t z).1;have w1:=iq hv.names.wf z;have Rx:=w1.len;have UP:=w1.m1;rw [e1] at hq ⊢;rw [ao (n:=4*(m:Int)) (by omega) (by omega),ao (by omega) (by omega)];exact hq
end
end
section
theorem Gp:∀ i:Fin 10,(⟨#[48,49,50,51,52,53,54,55,56,57]⟩:ByteArray).extract i.1 (i.1+1)=⟨#[UInt8.ofNat (48+i.1)]⟩:=by decide
theorem BJ {n:Nat}:(⟨#[48,49,50,51,52,53,54,55,56,57]⟩:ByteArray).extract (n % 10) (n % 10+1)=⟨#[UInt8.ofNat (48+n % 10)]⟩:=Gp ⟨n % 10,a4r _ (by decide)⟩
def headD (n:Nat):List UInt8:=if 9<n then Lib.decDigits (n / 10) else []
theorem wt (n:Nat):Lib.decDigits n=headD n++[UInt8.ofNat (48+n % 10)]:=by
 unfold headD;by_cases h:n<10
 ·rw [zC h,a0a (by omega),Nat.mod_eq_of_lt h];rfl
 ·rw [K5 h,a0b (by omega)]
section
variable {H:au}{Q:QT}
theorem wy {N:Nat} (hN:N<=1073741824) (h:Q (.tuple #[.string ⟨(Lib.decDigits N).toArray⟩,ac 0]) H):ag PP 324 #[ac (N:Int)] Q H:=by
 have md:∀ n:Nat,Int.tmod (n:Int) 10=((n % 10:Nat):Int):=fun n=>by rw [a2v (by omega)];omega
 have dv10:∀ n:Nat,Int.tdiv (n:Int) 10=((n / 10:Nat):Int):=fun n=>by rw [a2y (by omega)];omega
 have zw:((⟨#[48,49,50,51,52,53,54,55,56,57]⟩:ByteArray).size:Int)=10:=rfl;apply Iu;dsimp only [ah,bP,ac,Ly,bm,aO,ax,bJ,aI];rw [md,ao (n:=((N % 10:Nat):Int)+1) (by omega) (by omega),zw];have e1:Int.toNat (((N % 10:Nat):Int)+1)=N % 10+1:=by omega
 rw [e1,a0j,BJ];refine ⟨⟨⟨by omega,by omega⟩,by omega,by omega⟩,fun w H'=>H'=H∧∃(n:Nat) (L:List UInt8),w=[ac (n:Int),.string ⟨L.toArray⟩]∧L.length+n<=N+1∧Lib.decDigits N=headD n++L,fun w _=>match w with
  | [.int _ n,_]=>n.toNat
  | _=>0,⟨rfl,N,[UInt8.ofNat (48+N % 10)],rfl,by simp;omega,wt N⟩,?_⟩
 rintro w H1 ⟨rfl,n,L,rfl,hL,hD⟩ _;refine ⟨_,_,rfl,?_⟩;rw [dv10,ao (n:=((n / 10:Nat):Int)) (by omega) (by omega),md,ao (n:=((n / 10 % 10:Nat):Int)+1) (by omega) (by omega)];have e2:Int.toNat (((n / 10 % 10:Nat):Int)+1)=n / 10 % 10+1:=by omega
 rw [e2,a0j,BJ,ae];refine aD (fun h9=>?_) fun h9=>?_
 ·refine ⟨⟨⟨by omega,by omega⟩,by omega,by omega⟩,?_⟩;rw [ae,a0a (by
   rw [show IntKind.i64.max=9223372036854775807 from rfl]
   have:(⟨L.toArray⟩:ByteArray).size=L.length:=by show L.toArray.size=_;simp
   rw [this];show ¬ (((1+L.length:Nat):Int) > 9223372036854775807);omega)]
  have es:(⟨#[UInt8.ofNat (48+n / 10 % 10)]⟩:ByteArray)++⟨L.toArray⟩=⟨(UInt8.ofNat (48+n / 10 % 10) :: L).toArray⟩:=by
   refine a3q ?_;rw [a3Y];simp
  rw [es];refine ⟨⟨rfl,n / 10,_,rfl,by simp;omega,?_⟩,by show (((n / 10:Nat):Int)).toNat<((n:Int)).toNat;omega⟩;rw [hD]
  have:headD n=Lib.decDigits (n / 10):=by unfold headD;rw [a0b (by omega)]
  rw [this,wt (n / 10)];simp
 ·have:headD n=[]:=by unfold headD;rw [a0a (by omega)]
  rw [this,a35] at hD;rw [hD] at h;exact h
theorem DF {n:Int} (hn:kx n) (h:Q (.tuple #[.string (iE n),ac 0]) H):ag PP 259 #[ac n] Q H:=by
 obtain ⟨a1,a2⟩:=hn;apply HF;dsimp only [bk,ah,eb,bP,aX,ac,aO,ax,bJ,aI];refine gE ⟨a1,a2⟩ ⟨_,rfl,?_⟩;rw [a0p,a0f,ae];unfold iE Lib.itoa at h;refine aD (fun h0=>?_) fun h0=>?_
 ·rw [a0b h0] at h;rw [ao (by omega) (by omega)];have e:0-n=((n.natAbs:Nat):Int):=by omega
  rw [e];refine wy (by omega) ⟨_,_,rfl,?_⟩;have hl:=uY a1 a2;unfold Lib.itoa at hl;rw [a0b h0] at hl;rw [ae,a0a (by
   rw [show IntKind.i64.max=9223372036854775807 from rfl]
   have:(⟨(Lib.decDigits n.natAbs).toArray⟩:ByteArray).size=(Lib.decDigits n.natAbs).length:=by show (Lib.decDigits n.natAbs).toArray.size=_;simp
   rw [this];show ¬ (((1+(Lib.decDigits n.natAbs).length:Nat):Int) > 9223372036854775807);simp at hl;omega)]
  have es:(⟨#[45]⟩:ByteArray)++⟨(Lib.decDigits n.natAbs).toArray⟩=⟨(45 :: Lib.decDigits n.natAbs).toArray⟩:=by
   refine a3q ?_;rw [a3Y];simp
  rw [es];exact h
 ·rw [a0a h0] at h;obtain ⟨m,rfl⟩:=a3L (a:=n) (by omega);refine wy (by omega) ⟨_,_,rfl,?_⟩;simpa using h
end
attribute [local irreducible] bL cy cH iF fD iG gO gt iJ pu iy dp dA iE
section
variable {H:au}{b:Nat}{F:aS}{s:SP}{t:TB}{v:KV}{G:Int->Prop}{Q:QT}{r x y:Int}{ar:List Int}{n:Int}{p:PF}{sel:ByteArray}
theorem sub_zero (m:Int):(fD 0 m).2=0:=by unfold fD;rfl
theorem jj {m e:Int} (hm:e=0->kx m) (h:Q (iY (if e≠0 then (0,e) else iA m)) H):ag PP 257 #[ac m,ac e] Q H:=by
 apply HT;dsimp only [aA,aC,ah,ac];rw [bn,ae];refine aD (fun h0=>?_) fun h0=>?_
 ·rw [a0b h0] at h;exact h
 ·rw [a0a h0] at h;obtain ⟨a1,a2⟩:=hm (a0v h0);rw [lP ⟨a1,a2⟩] at h;exact dW ⟨by omega,by omega⟩ ⟨_,rfl,h⟩
theorem QL (hK:RK H b F s t) (hv:KAllW s t v) (hk:aU r=1) (hx:x=ar.getD 0 0)
  (K:DR H b F s t v r ar (jq p) Q) (hm:(sel,n,p)∈qH):ag PP 133 #[dv b r x y,.string sel] Q H:=by
 obtain ⟨er,Jk,en⟩:=gu hk;subst hx;apply KU;dsimp only [aL,aN,aA,aP,bk,aC,ah,ak,eb,bP,aX,ay,aF,ac,am,aJ,aO,ax];have f:=Fr.push [] H (.cells (dc b r (ar.getD 0 0) y) 191);have hb:=bI.new H (dc b r (ar.getD 0 0) y) 191;have An:=hK.nil f;generalize (H.push (.cells (dc b r (ar.getD 0 0) y) 191))=H0 at f hb An ⊢;have one:∀ o,(bS s t v r ar o).2=(s,t)->jq p=o->Q (iY (bS s t v r ar o).1) H0:=fun o e1 e2=>by
  have:=K H0 F (by rw [show (bS s t v r ar (jq p)).2.1=s by rw [e2,e1],show (bS s t v r ar (jq p)).2.2=t by rw [e2,e1]];exact An) (Up.of_nil f);rw [e2] at this;exact this
 refine ⟨_,hb.cell 1,cn ⟨_,rfl,?_⟩⟩;have cmp:∀ {f0:Int->Int->Bool},jq p=.cmp f0->(aU (ar.getD 0 0)≠1->Q (.tuple #[ac 0,ac 170]) H0)∧(aU (ar.getD 0 0)=1->Q (.tuple #[ac (tw (f0 (cG r) (cG (ar.getD 0 0)))),ac 0]) H0):=fun {f0} e=>by
  have hq:=one (.cmp f0) rfl e;simp only [bS] at hq;exact ⟨fun h=>by rw [a0b h] at hq;exact hq,fun h=>by rw [a0a (by simpa using h)] at hq;exact hq⟩
 have num:∀ {f0:Int->Int->Int × Int},jq p=.num f0->(aU (ar.getD 0 0)≠1->Q (.tuple #[ac 0,ac 170]) H0)∧(aU (ar.getD 0 0)=1->Q (iY (if (f0 (cG r) (cG (ar.getD 0 0))).2≠0 then (0,(f0 (cG r) (cG (ar.getD 0 0))).2) else iA (f0 (cG r) (cG (ar.getD 0 0))).1)) H0):=fun {f0} e=>by
  have hq:=one (.num f0) rfl e;simp only [bS] at hq;exact ⟨fun h=>by rw [a0b h] at hq;exact hq,fun h=>by rw [a0a (by simpa using h)] at hq;exact hq⟩
 have Jv:=nF r;have OF:=nF (ar.getD 0 0);have htm:=kS (cG r) 2;simp only [qH,a0E,Prod.mk.injEq,a1l,a2h] at hm;rcases hm with ⟨rfl,rfl,rfl⟩ | ⟨rfl,rfl,rfl⟩ | ⟨rfl,rfl,rfl⟩ | ⟨rfl,rfl,rfl⟩ | ⟨rfl,rfl,rfl⟩ | ⟨rfl,rfl,rfl⟩ | ⟨rfl,rfl,rfl⟩ | ⟨rfl,rfl,rfl⟩ | ⟨rfl,rfl,rfl⟩ | ⟨rfl,rfl,rfl⟩ | ⟨rfl,rfl,rfl⟩ | ⟨rfl,rfl,rfl⟩ | ⟨rfl,rfl,rfl⟩ | ⟨rfl,rfl,rfl⟩ | ⟨rfl,rfl,rfl⟩ | ⟨rfl,rfl,rfl⟩ | ⟨rfl,rfl,rfl⟩ | ⟨rfl,rfl,rfl⟩ | ⟨rfl,rfl,rfl⟩ | ⟨rfl,rfl,rfl⟩ | ⟨rfl,rfl,rfl⟩ | ⟨rfl,rfl,rfl⟩
 all_goals repeat refine bQ (fun e=>absurd e (by decide)) fun _=>?_
 ·refine ⟨_,hb.cell 2,dd ⟨_,rfl,?_⟩⟩;by_cases h1:aU (ar.getD 0 0)=1
  case neg =>
   rw [a09 h1,a0C,a0P];exact (num rfl).1 h1
  rw [a00 h1,a0p,a0f];refine ⟨_,hb.cell 2,cn ⟨_,rfl,?_⟩⟩
  repeat refine bQ (fun e=>absurd e (by decide)) fun _=>?_
  apply iU;dsimp only [aA,ah,ak,ac,ax]
  repeat refine bQ (fun e=>absurd e (by decide)) fun _=>?_
  refine bQ (fun _=>?_) fun e=>absurd rfl e;exact DL _ _ Jv OF ⟨_,_,rfl,jj (fun h=>Mi _ _ Jv OF h) ⟨_,_,rfl,⟨_,_,rfl,(num rfl).2 h1⟩⟩⟩
 ·refine ⟨_,hb.cell 2,dd ⟨_,rfl,?_⟩⟩;by_cases h1:aU (ar.getD 0 0)=1
  case neg =>
   rw [a09 h1,a0C,a0P];exact (num rfl).1 h1
  rw [a00 h1,a0p,a0f];refine ⟨_,hb.cell 2,cn ⟨_,rfl,?_⟩⟩
  repeat refine bQ (fun e=>absurd e (by decide)) fun _=>?_
  apply iU;dsimp only [aA,ah,ak,ac,ax]
  repeat refine bQ (fun e=>absurd e (by decide)) fun _=>?_
  refine bQ (fun _=>?_) fun e=>absurd rfl e;exact tT _ _ Jv OF ⟨_,_,rfl,jj (fun h=>xz _ _ Jv OF h) ⟨_,_,rfl,⟨_,_,rfl,(num rfl).2 h1⟩⟩⟩
 ·refine ⟨_,hb.cell 2,dd ⟨_,rfl,?_⟩⟩;by_cases h1:aU (ar.getD 0 0)=1
  case neg =>
   rw [a09 h1,a0C,a0P];exact (num rfl).1 h1
  rw [a00 h1,a0p,a0f];refine ⟨_,hb.cell 2,cn ⟨_,rfl,?_⟩⟩
  repeat refine bQ (fun e=>absurd e (by decide)) fun _=>?_
  apply iU;dsimp only [aA,ah,ak,ac,ax]
  repeat refine bQ (fun e=>absurd e (by decide)) fun _=>?_
  refine bQ (fun _=>?_) fun e=>absurd rfl e;exact Gd _ _ Jv OF ⟨_,_,rfl,jj (fun h=>Nl _ _ Jv OF h) ⟨_,_,rfl,⟨_,_,rfl,(num rfl).2 h1⟩⟩⟩
 ·refine ⟨_,hb.cell 2,dd ⟨_,rfl,?_⟩⟩;by_cases h1:aU (ar.getD 0 0)=1
  case neg =>
   rw [a09 h1,a0C,a0P];exact (num rfl).1 h1
  rw [a00 h1,a0p,a0f];refine ⟨_,hb.cell 2,cn ⟨_,rfl,?_⟩⟩
  repeat refine bQ (fun e=>absurd e (by decide)) fun _=>?_
  apply iU;dsimp only [aA,ah,ak,ac,ax]
  repeat refine bQ (fun e=>absurd e (by decide)) fun _=>?_
  refine bQ (fun _=>?_) fun e=>absurd rfl e;exact Kv _ _ Jv OF ⟨_,_,rfl,jj (fun h=>Mb _ _ Jv OF h) ⟨_,_,rfl,⟨_,_,rfl,(num rfl).2 h1⟩⟩⟩
 ·refine ⟨_,hb.cell 2,dd ⟨_,rfl,?_⟩⟩;by_cases h1:aU (ar.getD 0 0)=1
  case neg =>
   rw [a09 h1,a0C,a0P];exact (num rfl).1 h1
  rw [a00 h1,a0p,a0f];refine ⟨_,hb.cell 2,cn ⟨_,rfl,?_⟩⟩
  repeat refine bQ (fun e=>absurd e (by decide)) fun _=>?_
  apply iU;dsimp only [aA,ah,ak,ac,ax]
  repeat refine bQ (fun e=>absurd e (by decide)) fun _=>?_
  refine bQ (fun _=>?_) fun e=>absurd rfl e;exact DD _ _ Jv OF ⟨_,_,rfl,jj (fun h=>BF _ _ Jv OF h) ⟨_,_,rfl,⟨_,_,rfl,(num rfl).2 h1⟩⟩⟩
 ·refine ⟨_,hb.cell 2,dd ⟨_,rfl,?_⟩⟩;by_cases h1:aU (ar.getD 0 0)=1
  case neg =>
   rw [a09 h1,a0C,a0P];exact (num rfl).1 h1
  rw [a00 h1,a0p,a0f];refine ⟨_,hb.cell 2,cn ⟨_,rfl,?_⟩⟩
  repeat refine bQ (fun e=>absurd e (by decide)) fun _=>?_
  apply iU;dsimp only [aA,ah,ak,ac,ax]
  repeat refine bQ (fun e=>absurd e (by decide)) fun _=>?_
  refine bQ (fun _=>?_) fun e=>absurd rfl e;exact Hl _ _ Jv OF ⟨_,_,rfl,jj (fun h=>M1 _ _ Jv OF h) ⟨_,_,rfl,⟨_,_,rfl,(num rfl).2 h1⟩⟩⟩
 ·refine ⟨_,hb.cell 2,dd ⟨_,rfl,?_⟩⟩;by_cases h1:aU (ar.getD 0 0)=1
  case neg =>
   rw [a09 h1,a0C,a0P];exact (num rfl).1 h1
  rw [a00 h1,a0p,a0f];refine ⟨_,hb.cell 2,cn ⟨_,rfl,?_⟩⟩
  repeat refine bQ (fun e=>absurd e (by decide)) fun _=>?_
  apply iU;dsimp only [aA,ah,ak,ac,ax]
  repeat refine bQ (fun e=>absurd e (by decide)) fun _=>?_
  refine bQ (fun _=>?_) fun e=>absurd rfl e;exact NC _ _ Jv OF ⟨_,_,rfl,jj (fun h=>Qh _ _ Jv OF h) ⟨_,_,rfl,⟨_,_,rfl,(num rfl).2 h1⟩⟩⟩
 ·refine ⟨_,hb.cell 2,dd ⟨_,rfl,?_⟩⟩;by_cases h1:aU (ar.getD 0 0)=1
  case neg =>
   rw [a09 h1,a0C,a0P];exact (num rfl).1 h1
  rw [a00 h1,a0p,a0f];refine ⟨_,hb.cell 2,cn ⟨_,rfl,?_⟩⟩
  repeat refine bQ (fun e=>absurd e (by decide)) fun _=>?_
  apply iU;dsimp only [aA,ah,ak,ac,ax]
  repeat refine bQ (fun e=>absurd e (by decide)) fun _=>?_
  refine bQ (fun _=>?_) fun e=>absurd rfl e;exact IE _ _ Jv OF ⟨_,_,rfl,jj (fun h=>Ns _ _ Jv OF h) ⟨_,_,rfl,⟨_,_,rfl,(num rfl).2 h1⟩⟩⟩
 ·refine ⟨_,hb.cell 2,dd ⟨_,rfl,?_⟩⟩;by_cases h1:aU (ar.getD 0 0)=1
  case neg =>
   rw [a09 h1,a0C,a0P];exact (num rfl).1 h1
  rw [a00 h1,a0p,a0f];refine ⟨_,hb.cell 2,cn ⟨_,rfl,?_⟩⟩
  repeat refine bQ (fun e=>absurd e (by decide)) fun _=>?_
  apply iU;dsimp only [aA,ah,ak,ac,ax]
  repeat refine bQ (fun e=>absurd e (by decide)) fun _=>?_
  exact Ae _ _ Jv OF ⟨_,_,rfl,jj (fun h=>CY _ _ Jv OF h) ⟨_,_,rfl,⟨_,_,rfl,(num rfl).2 h1⟩⟩⟩
 ·refine ⟨_,hb.cell 2,dd ⟨_,rfl,?_⟩⟩;by_cases h1:aU (ar.getD 0 0)=1
  case neg =>
   rw [a09 h1,a0C,a0P];exact (cmp rfl).1 h1
  rw [a00 h1,a0p,a0f];refine ⟨_,hb.cell 2,cn ⟨_,rfl,?_⟩⟩
  repeat refine bQ (fun e=>absurd e (by decide)) fun _=>?_
  refine bQ (fun _=>?_) fun e=>absurd rfl e;exact cz ⟨_,_,rfl,(cmp rfl).2 h1⟩
 ·refine ⟨_,hb.cell 2,dd ⟨_,rfl,?_⟩⟩;by_cases h1:aU (ar.getD 0 0)=1
  case neg =>
   rw [a09 h1,a0C,a0P];exact (cmp rfl).1 h1
  rw [a00 h1,a0p,a0f];refine ⟨_,hb.cell 2,cn ⟨_,rfl,?_⟩⟩
  repeat refine bQ (fun e=>absurd e (by decide)) fun _=>?_
  refine bQ (fun _=>?_) fun e=>absurd rfl e;exact cz ⟨_,_,rfl,(cmp rfl).2 h1⟩
 ·refine ⟨_,hb.cell 2,dd ⟨_,rfl,?_⟩⟩;by_cases h1:aU (ar.getD 0 0)=1
  case neg =>
   rw [a09 h1,a0C,a0P];exact (cmp rfl).1 h1
  rw [a00 h1,a0p,a0f];refine ⟨_,hb.cell 2,cn ⟨_,rfl,?_⟩⟩
  repeat refine bQ (fun e=>absurd e (by decide)) fun _=>?_
  refine bQ (fun _=>?_) fun e=>absurd rfl e;exact cz ⟨_,_,rfl,(cmp rfl).2 h1⟩
 ·refine ⟨_,hb.cell 2,dd ⟨_,rfl,?_⟩⟩;by_cases h1:aU (ar.getD 0 0)=1
  case neg =>
   rw [a09 h1,a0C,a0P];exact (cmp rfl).1 h1
  rw [a00 h1,a0p,a0f];refine ⟨_,hb.cell 2,cn ⟨_,rfl,?_⟩⟩
  repeat refine bQ (fun e=>absurd e (by decide)) fun _=>?_
  refine bQ (fun _=>?_) fun e=>absurd rfl e;exact cz ⟨_,_,rfl,(cmp rfl).2 h1⟩
 ·refine ⟨_,hb.cell 2,dd ⟨_,rfl,?_⟩⟩;by_cases h1:aU (ar.getD 0 0)=1
  case neg =>
   rw [a09 h1,a0C,a0P];exact (num rfl).1 h1
  rw [a00 h1,a0p,a0f];refine ⟨_,hb.cell 2,cn ⟨_,rfl,?_⟩⟩
  repeat refine bQ (fun e=>absurd e (by decide)) fun _=>?_
  refine bQ (fun _=>?_) fun e=>absurd rfl e;have hq:=(num rfl).2 h1;rw [a0a (by simp)] at hq;obtain ⟨ex,_,ex2⟩:=gu h1;rw [ae];refine aD (fun h2=>⟨_,hb.cell 2,?_⟩) fun h2=>⟨_,hb.cell 1,?_⟩
  ·have e:(if cG (ar.getD 0 0)<cG r then cG (ar.getD 0 0) else cG r)=cG (ar.getD 0 0):=a0b (by omega);simp only [e] at hq;rw [lP OF,ex2,←ex] at hq;exact hq
  ·have e:(if cG (ar.getD 0 0)<cG r then cG (ar.getD 0 0) else cG r)=cG r:=a0a (by omega);simp only [e] at hq;rw [lP Jv,en,←er] at hq;exact hq
 ·refine ⟨_,hb.cell 2,dd ⟨_,rfl,?_⟩⟩;by_cases h1:aU (ar.getD 0 0)=1
  case neg =>
   rw [a09 h1,a0C,a0P];exact (num rfl).1 h1
  rw [a00 h1,a0p,a0f];refine ⟨_,hb.cell 2,cn ⟨_,rfl,?_⟩⟩
  repeat refine bQ (fun e=>absurd e (by decide)) fun _=>?_
  refine bQ (fun _=>?_) fun e=>absurd rfl e;have hq:=(num rfl).2 h1;rw [a0a (by simp)] at hq;obtain ⟨ex,_,ex2⟩:=gu h1;rw [ae];refine aD (fun h2=>⟨_,hb.cell 2,?_⟩) fun h2=>⟨_,hb.cell 1,?_⟩
  ·have e:(if cG r<cG (ar.getD 0 0) then cG (ar.getD 0 0) else cG r)=cG (ar.getD 0 0):=a0b (by omega);simp only [e] at hq;rw [lP OF,ex2,←ex] at hq;exact hq
  ·have e:(if cG r<cG (ar.getD 0 0) then cG (ar.getD 0 0) else cG r)=cG r:=a0a (by omega);simp only [e] at hq;rw [lP Jv,en,←er] at hq;exact hq
 ·refine bQ (fun _=>?_) fun e=>absurd rfl e;refine ⟨_,hb.cell 1,_,hb.cell 2,cz ⟨_,_,rfl,?_⟩⟩;rw [bq];exact one .same rfl rfl
 ·refine bQ (fun _=>?_) fun e=>absurd rfl e;refine ⟨_,hb.cell 1,_,hb.cell 2,cz ⟨_,_,rfl,?_⟩⟩;rw [bn];exact one .other rfl rfl
 ·refine bQ (fun _=>?_) fun e=>absurd rfl e;have hq:=one .neg rfl rfl;have e2:(fD 0 (cG r)).2=0:=sub_zero _;refine tT 0 _ ⟨by decide,by decide⟩ Jv ⟨_,_,rfl,jj (fun h=>xz _ _ ⟨by decide,by decide⟩ Jv h) ⟨_,_,rfl,?_⟩⟩;rw [a0a (fun e=>e e2)];exact hq
 ·refine bQ (fun _=>?_) fun e=>absurd rfl e;have hq:=one .abs rfl rfl;simp only [bS] at hq;have e2:(fD 0 (cG r)).2=0:=sub_zero _;rw [ae];refine aD (fun h0=>?_) fun h0=>⟨_,hb.cell 1,?_⟩
  ·rw [a0b h0] at hq;refine tT 0 _ ⟨by decide,by decide⟩ Jv ⟨_,_,rfl,jj (fun h=>xz _ _ ⟨by decide,by decide⟩ Jv h) ⟨_,_,rfl,?_⟩⟩;rw [a0a (fun e=>e e2)];exact hq
  ·rw [a0a h0] at hq;exact hq
 ·refine bQ (fun _=>?_) fun e=>absurd rfl e;refine cz ⟨_,_,rfl,?_⟩;rw [bq,show decide (Int.tmod (cG r) 2=0)=decide (cG r % 2=0) from decide_eq_decide.2 (by omega)];exact one .even rfl rfl
 ·refine bQ (fun _=>?_) fun e=>absurd rfl e;refine cz ⟨_,_,rfl,?_⟩;rw [bn,show decide (Int.tmod (cG r) 2≠0)=decide (cG r % 2=1) from decide_eq_decide.2 (by omega)];exact one .odd rfl rfl
 ·refine bQ (fun _=>?_) fun e=>absurd rfl e;have K':DR H b F s t v r ar .print Q:=K;simp only [DR,bS,C3] at K';have zw:=qQ Jv;exact DF Jv ⟨_,_,rfl,_,hb.cell 0,uq An hv (by omega) fun H' F' w8 u=>⟨_,_,rfl,K' H' F' w8 (eZ f u)⟩⟩
end
end
def cg (c:Int):List ByteArray :=
 if c=4 then [⟨#[61]⟩,⟨#[61,61]⟩,⟨#[99,108,97,115,115]⟩,⟨#[99,111,112,121]⟩,⟨#[105,110,115,116,86,97,114,65,116,58]⟩,⟨#[105,110,115,116,86,97,114,65,116,58,112,117,116,58]⟩,⟨#[105,110,115,116,86,97,114,83,105,122,101]⟩,⟨#[105,115,75,105,110,100,79,102,58]⟩,⟨#[105,115,78,105,108]⟩,⟨#[110,111,116,78,105,108]⟩,⟨#[121,111,117,114,115,101,108,102]⟩,⟨#[126,126]⟩] else
 if c=6∨c=7 then [⟨#[38]⟩,⟨#[97,110,100,58]⟩,⟨#[110,111,116]⟩,⟨#[111,114,58]⟩] else
 if c=8 then [⟨#[42]⟩,⟨#[43]⟩,⟨#[45]⟩,⟨#[47,47]⟩,⟨#[60]⟩,⟨#[60,61]⟩,⟨#[61]⟩,⟨#[62]⟩,⟨#[62,61]⟩,⟨#[92,92]⟩,⟨#[97,98,115]⟩,⟨#[98,105,116,65,110,100,58]⟩,⟨#[98,105,116,79,114,58]⟩,⟨#[98,105,116,83,104,105,102,116,58]⟩,⟨#[98,105,116,88,111,114,58]⟩,⟨#[101,118,101,110]⟩,⟨#[109,97,120,58]⟩,⟨#[109,105,110,58]⟩,⟨#[110,101,103,97,116,101,100]⟩,⟨#[111,100,100]⟩,⟨#[112,114,105,110,116,83,116,114,105,110,103]⟩,⟨#[126,61]⟩] else
 if c=9 then [⟨#[60]⟩,⟨#[97,115,83,116,114,105,110,103]⟩,⟨#[115,105,122,101]⟩] else
 if c=10 then [⟨#[44]⟩,⟨#[60]⟩,⟨#[61]⟩,⟨#[97,115,83,121,109,98,111,108]⟩,⟨#[97,116,58]⟩,⟨#[97,116,58,112,117,116,58]⟩,⟨#[105,115,69,109,112,116,121]⟩,⟨#[115,105,122,101]⟩] else
 if c=11 then [⟨#[97,116,58]⟩,⟨#[97,116,58,112,117,116,58]⟩,⟨#[105,115,69,109,112,116,121]⟩,⟨#[115,105,122,101]⟩] else
 if c=12 then [⟨#[110,97,109,101]⟩,⟨#[110,101,119]⟩,⟨#[110,101,119,58]⟩,⟨#[115,117,112,101,114,99,108,97,115,115]⟩] else
 if c=14 then [⟨#[110,117,109,65,114,103,115]⟩] else
 if c=17 then [⟨#[97,114,103,117,109,101,110,116,115]⟩,⟨#[115,101,108,101,99,116,111,114]⟩] else
 []
section
variable {H:au}{Q:QT}
theorem Hy {c:Int} (h:∀ a l n G H',bZ 1 H' a l n (bC (cg c)) G->Fr [] H H'->(∀ x∈G,H.size<=x)->Q (.slice a l n) H'):ag PP 248 #[ac c] Q H:=by
 apply FG;dsimp only [aL,aP,ah,rL,av,aJ,aO,ax];refine dh (fun e=>?_) fun n4=>?_
 ·subst e;exact h _ _ _ [H.size] _ ⟨rfl,a0U _,.inr ⟨_,_,rfl,rfl,bI.new _ _ _,rfl,rfl⟩⟩ (Fr.push _ _ _) (by simp)
 refine ⟨fun w H'=>w=[.bool (decide (c=6∨c=7))]∧H'=H,dh (fun e=>⟨by simp [e],rfl⟩) fun n7=>⟨by rw [bq];simp [n7],rfl⟩,?_⟩;rintro w H1 ⟨rfl,rfl⟩ _;refine ⟨_,rfl,?_⟩;rw [ae];refine aD (fun e=>?_) fun n67=>?_
 ·have e6:cg c=cg 6:=by rcases e with rfl | rfl <;> rfl
  rw [e6] at h;exact h _ _ _ [H1.size] _ ⟨rfl,a0U _,.inr ⟨_,_,rfl,rfl,bI.new _ _ _,rfl,rfl⟩⟩ (Fr.push _ _ _) (by simp)
 refine dh (fun e=>?_) fun n8=>?_
 ·subst e;exact h _ _ _ [H1.size] _ ⟨rfl,a0U _,.inr ⟨_,_,rfl,rfl,bI.new _ _ _,rfl,rfl⟩⟩ (Fr.push _ _ _) (by simp)
 refine dh (fun e=>?_) fun n9=>?_
 ·subst e;exact h _ _ _ [H1.size] _ ⟨rfl,a0U _,.inr ⟨_,_,rfl,rfl,bI.new _ _ _,rfl,rfl⟩⟩ (Fr.push _ _ _) (by simp)
 refine dh (fun e=>?_) fun n10=>?_
 ·subst e;exact h _ _ _ [H1.size] _ ⟨rfl,a0U _,.inr ⟨_,_,rfl,rfl,bI.new _ _ _,rfl,rfl⟩⟩ (Fr.push _ _ _) (by simp)
 refine dh (fun e=>?_) fun n11=>?_
 ·subst e;exact h _ _ _ [H1.size] _ ⟨rfl,a0U _,.inr ⟨_,_,rfl,rfl,bI.new _ _ _,rfl,rfl⟩⟩ (Fr.push _ _ _) (by simp)
 refine dh (fun e=>?_) fun n12=>?_
 ·subst e;exact h _ _ _ [H1.size] _ ⟨rfl,a0U _,.inr ⟨_,_,rfl,rfl,bI.new _ _ _,rfl,rfl⟩⟩ (Fr.push _ _ _) (by simp)
 refine dh (fun e=>?_) fun n14=>?_
 ·subst e;exact h _ _ _ [H1.size] _ ⟨rfl,a0U _,.inr ⟨_,_,rfl,rfl,bI.new _ _ _,rfl,rfl⟩⟩ (Fr.push _ _ _) (by simp)
 refine dh (fun e=>?_) fun n17=>?_
 ·subst e;exact h _ _ _ [H1.size] _ ⟨rfl,a0U _,.inr ⟨_,_,rfl,rfl,bI.new _ _ _,rfl,rfl⟩⟩ (Fr.push _ _ _) (by simp)
 have e0:cg c=[]:=by
  unfold cg;rw [a0a n4,a0a n67,a0a n8,a0a n9,a0a n10,a0a n11,a0a n12,a0a n14,a0a n17]
 rw [e0] at h;exact h _ _ _ [] _ (bZ.nil 1 H1) (Fr.refl _ _) (by simp)
theorem vy {a1 a2:Option Addr}{l1 l2 c1 c2:Nat}{xs ys:List ByteArray} (h1:Rd 1 H a1 l1 (bC xs)) (h2:Rd 1 H a2 l2 (bC ys)) (hb:l1<=1000000000000000) (h:Q (.bool (decide (xs=ys))) H):ag PP 65 #[.slice a1 l1 c1,.slice a2 l2 c2] Q H:=by
 have e1:l1=xs.length:=by have:=h1.1;simpa [bC] using this.symm
 have e2:l2=ys.length:=by have:=h2.1;simpa [bC] using this.symm
 apply Ms;dsimp only [aP,ah,aX,cX,bc,ac,bf,bX,bm,aI];have no:xs≠ys->Q (.bool false) H:=fun hn=>by rw [a09 hn] at h;exact h
 rw [bn,ae];refine aD (fun ic=>no fun e=>ic (by rw [e1,e2,e])) fun ic=>?_;have hlen:l1=l2:=by omega
 refine ⟨fun w H'=>H'=H∧∃ i:Nat,w=[ac i]∧i<=l1∧xs.take i=ys.take i,fun w _=>match w with
  | [.int _ i]=>(l1-i).toNat
  | _=>0,⟨rfl,0,rfl,a07 _,rfl⟩,?_⟩
 rintro w H1 ⟨rfl,i,rfl,hi,b8⟩ _;refine ⟨_,rfl,?_⟩;rw [ae];refine aD (fun an=>?_) fun an=>?_
 ·obtain ⟨p,OT,rfl,uF⟩:=h1.str (i:=(i:Int)) (by omega) (by omega);obtain ⟨q,AT,rfl,w7⟩:=h2.str (i:=(i:Int)) (by omega) (by omega);simp only [a0j] at uF OT w7 AT;have e:IntKind.wrap .i64 ((i:Int)+1)=((i+1:Nat):Int):=by rw [ao (by omega) (by omega)];omega
  refine ⟨⟨by omega,by omega⟩,_,rfl,_,by rw [a0j,a0y];exact uF,⟨by omega,by omega⟩,_,rfl,_,by rw [a0j,a0y];exact w7,?_⟩;rw [cV,←decide_not,ae];refine aD (fun he=>no fun e=>he (by subst e;rfl)) fun he=>?_;rw [e];have he':xs[i]=ys[i]:=a0v he;refine ⟨⟨rfl,i+1,rfl,by omega,?_⟩,by simp;omega⟩;rw [a1i,a1i,a0Q OT,a0Q AT,b8,he']
 ·have ui:i=l1:=by omega
  subst ui;rw [a0Y (by omega),a0Y (by omega)] at b8;rw [a00 b8] at h;exact h
end
def wE (l:List ByteArray) (x:ByteArray):Bool:=l.any fun y=>decide (y=x)
theorem xS (c:Int):(cg c).length<=22:=by
 unfold cg
 repeat' split
 all_goals simp
section
variable {H:au}{Q:QT}
theorem Ev {c:Int}{x:ByteArray} (h:∀ H',Fr [] H H'->Q (.bool (wE (cg c) x)) H'):ag PP 126 #[ac c,.string x] Q H:=by
 apply Dq;dsimp only [aP,cq,ah,aX,cX,bc,ac,bf,bX,bm,aI];refine Hy fun a l n G H1 ho f hG=>⟨_,_,_,rfl,?_⟩;have hl:l=(cg c).length:=by have:=ho.len;simpa [bC] using this.symm
 have hb:=xS c;refine ⟨fun w H'=>∃ i:Nat,w=[ac i]∧i<=l∧H'=H1∧wE ((cg c).take i) x=false,fun w _=>match w with
  | [.int _ i]=>((l:Int)-i).toNat
  | _=>0,⟨0,rfl,a07 _,rfl,rfl⟩,?_⟩
 rintro w H2 ⟨i,rfl,hi,rfl,Db⟩ _;refine ⟨_,rfl,?_⟩;rw [ae];refine aD (fun an=>?_) fun an=>?_
 ·obtain ⟨p,OT,rfl,uF⟩:=ho.rd.str (i:=(i:Int)) (by omega) (by omega);simp only [a0j] at uF OT;have e:IntKind.wrap .i64 ((i:Int)+1)=((i+1:Nat):Int):=by rw [ao (by omega) (by omega)];omega
  have et:(cg c).take (i+1)=(cg c).take i++[(cg c)[i]]:=by rw [a1i,a0Q OT];rfl
  refine ⟨⟨by omega,by omega⟩,_,rfl,_,by rw [a0j,a0y];exact uF,?_⟩;rw [cV,ae];refine aD (fun he=>?_) fun he=>?_
  ·have:wE (cg c) x=true:=List.any_eq_true.2 ⟨_,a04 OT,by simp [he]⟩;rw [←this];exact h _ f
  ·rw [e];refine ⟨⟨i+1,rfl,by omega,rfl,?_⟩,by simp;omega⟩;unfold wE at Db ⊢;rw [et,List.any_append,Db];simp [he]
 ·have ui:i=l:=by omega
  rw [a0Y (by omega)] at Db;rw [←Db];exact h _ f
def gU:List UInt8->Nat
 | []=>0
 | u :: l=>(if u.toNat=58 then 1 else 0)+gU l
def qE (x:ByteArray):Int:=if gU x.data.toList=0∧((x.data.toList.headD 0).toNat<65∨(90<(x.data.toList.headD 0).toNat∧(x.data.toList.headD 0).toNat<97)∨122<(x.data.toList.headD 0).toNat) then 1 else gU x.data.toList
theorem pg (l:List UInt8) (u:UInt8):gU (l++[u])=gU l+if u.toNat=58 then 1 else 0:=by
 induction l with
 | nil=>simp [gU]
 | cons a l ih=>rw [a3k,gU,ih,gU];omega
theorem sL (l:List UInt8):gU l<=l.length:=by
 induction l with
 | nil=>exact a0U _
 | cons a l ih=>rw [gU,a1b];split <;> omega
theorem AF (l:List UInt8) (h:0<l.length):l.headD 0=l[0]:=by
 cases l with
 | nil=>cases h
 | cons a l=>rfl
theorem HL {x:ByteArray} (h0:1<=x.size) (h1:x.size<=1000000) (h:Q (ac (qE x)) H):ag PP 127 #[.string x] Q H:=by
 have zw:x.data.toList.length=x.size:=a3A;have gB:∀ (i:Nat) (hi:i<x.size),x[i]?=some (x.data.toList[i]'(by omega)):=fun i hi=>by
  simp [hi,ByteArray.getElem_eq_getElem_data]
 apply Fz;dsimp only [ah,bP,aX,ac,js,bm,ax,jb,aI];refine ⟨fun w H'=>H'=H∧∃ i:Nat,w=[ac ((gU (x.data.toList.take i):Nat):Int),ac (i:Int)]∧i<=x.size,fun w _=>match w with
  | [_,.int _ i]=>((x.size:Int)-i).toNat
  | _=>0,⟨rfl,0,rfl,a07 _⟩,?_⟩
 rintro w H1 ⟨rfl,i,rfl,hi⟩ _;refine ⟨_,_,rfl,?_⟩;rw [ae];refine aD (fun an=>?_) fun JR=>?_
 ·have ui:i<x.size:=by omega
  have hc:=sL (x.data.toList.take i);rw [a1q] at hc;have s8:x.data.toList.take (i+1)=x.data.toList.take i++[x.data.toList[i]'(by omega)]:=by
   rw [a1i,a0Q (by omega)];rfl
  refine ⟨_,⟨by omega,by rw [a0j];exact gB i ui⟩,?_⟩;rw [ao (n:=(i:Int)+1) (by omega) (by omega),ao (n:=((gU (x.data.toList.take i):Nat):Int)+1) (by omega) (by omega)];refine dh (fun e=>⟨⟨rfl,i+1,?_,by omega⟩,by simp;omega⟩) fun e=>⟨⟨rfl,i+1,?_,by omega⟩,by simp;omega⟩
  ·rw [s8,pg,a0b (by omega)];rfl
  ·rw [s8,pg,a0a (by omega)];rfl
 ·have:i=x.size:=by omega
  subst this;rw [a0Y (by omega)];have hhd:x.data.toList.headD 0=x.data.toList[0]'(by omega):=AF _ (by omega);unfold qE at h;rw [hhd] at h;refine ⟨_,⟨a1F _,gB 0 (by omega)⟩,?_⟩;generalize (x.data.toList[0]'(by omega))=u at h;refine dh (fun e=>?_) fun e=>?_
  ·have e0:gU x.data.toList=0:=by omega
   simp only [e0,a1a] at h;rw [ae];refine aD (fun h1=>?_) fun h1=>?_
   ·rw [a0b (.inl (by omega))] at h;rw [ae];refine aD (fun _=>h) fun h2=>?_;omega
   rw [ae];refine aD (fun h2=>?_) fun h2=>?_
   ·rw [ae];refine aD (fun h3=>?_) fun h3=>?_
    ·rw [a0b (.inr (.inl ⟨by omega,by omega⟩))] at h;exact h
    ·rw [ae];refine aD (fun h4=>?_) fun h4=>?_
     ·rw [a0b (.inr (.inr (by omega)))] at h;exact h
     ·rw [a0a (by omega)] at h;rw [e0];exact h
   ·rw [a0a (by omega)] at h;rw [e0];exact h
  ·rw [a0a (fun hh=>e (by omega))] at h;exact h
end
section
def nilF:PF->Bool
 | .nil=>true
 | _=>false
def qL (es:List PE) (l:List ByteArray):Bool:=l.all fun y=>match gv es y with
 | some (n,p)=>!(nilF p) && decide (qE y=n) && decide (1<=y.size∧y.size<=1000)
 | none=>false
def ra (es:List PE) (l:List ByteArray):Bool:=es.all fun e=>nilF e.2.2 || wE l e.1
theorem zq:∀ k:Int,qL (fi k) (cg k)=true∧ra (fi k) (cg k)=true:=by
 intro k;have c4:qL (fi 4) (cg 4)=true∧ra (fi 4) (cg 4)=true:=⟨by kernel_rfl,by kernel_rfl⟩;have c6:qL (fi 6) (cg 6)=true∧ra (fi 6) (cg 6)=true:=⟨by kernel_rfl,by kernel_rfl⟩;have c7:qL (fi 7) (cg 7)=true∧ra (fi 7) (cg 7)=true:=⟨by kernel_rfl,by kernel_rfl⟩;have c8:qL (fi 8) (cg 8)=true∧ra (fi 8) (cg 8)=true:=⟨by kernel_rfl,by kernel_rfl⟩;have c9:qL (fi 9) (cg 9)=true∧ra (fi 9) (cg 9)=true:=⟨by kernel_rfl,by kernel_rfl⟩;have c10:qL (fi 10) (cg 10)=true∧ra (fi 10) (cg 10)=true:=⟨by kernel_rfl,by kernel_rfl⟩;have c11:qL (fi 11) (cg 11)=true∧ra (fi 11) (cg 11)=true:=⟨by kernel_rfl,by kernel_rfl⟩;have c12:qL (fi 12) (cg 12)=true∧ra (fi 12) (cg 12)=true:=⟨by kernel_rfl,by kernel_rfl⟩;have c14:qL (fi 14) (cg 14)=true∧ra (fi 14) (cg 14)=true:=⟨by kernel_rfl,by kernel_rfl⟩;have c17:qL (fi 17) (cg 17)=true∧ra (fi 17) (cg 17)=true:=⟨by kernel_rfl,by kernel_rfl⟩;by_cases h4:k=4
 ·rw [h4];exact c4
 by_cases h6:k=6
 ·rw [h6];exact c6
 by_cases h7:k=7
 ·rw [h7];exact c7
 by_cases h8:k=8
 ·rw [h8];exact c8
 by_cases h9:k=9
 ·rw [h9];exact c9
 by_cases qz:k=10
 ·rw [qz];exact c10
 by_cases I3:k=11
 ·rw [I3];exact c11
 by_cases Jb:k=12
 ·rw [Jb];exact c12
 by_cases h14:k=14
 ·rw [h14];exact c14
 by_cases UB:k=17
 ·rw [UB];exact c17
 have e1:fi k=[]:=by
  unfold fi;rw [a0a h4,a0a (by omega),a0a h8,a0a h9,a0a qz,a0a I3,a0a Jb,a0a h14,a0a UB]
 have e2:cg k=[]:=by
  unfold cg;rw [a0a h4,a0a (by omega),a0a h8,a0a h9,a0a qz,a0a I3,a0a Jb,a0a h14,a0a UB]
 rw [e1,e2];exact ⟨rfl,rfl⟩
theorem CE {k:Int}{x:ByteArray} (h:wE (cg k) x=true):∃ n p,gv (fi k) x=some (n,p)∧p≠.nil∧qE x=n∧1<=x.size∧x.size<=1000:=by
 obtain ⟨y,hy,e⟩:=List.any_eq_true.1 h;have e:=of_decide_eq_true e;subst e
 have:=a2N.1 (zq k).1 y hy;split at this
 ·rename_i n p hg;simp only [a2b,a3x,decide_eq_true_eq] at this;refine ⟨n,p,hg,fun hp=>?_,this.1.2,this.2.1,this.2.2⟩;rw [hp] at this;exact absurd this.1.1 (by decide)
 ·cases this
theorem Bd {k n:Int}{p:PF}{x:ByteArray} (h:gv (fi k) x=some (n,p)) (hp:p≠.nil):wE (cg k) x=true:=by
 have:=a2N.1 (zq k).2 _ (nE h);simp only [Bool.or_eq_true] at this;rcases this with h1 | h1
 ·cases p <;> first | exact absurd rfl hp | cases h1
 ·exact h1
attribute [local irreducible] bL cy cH iF fD iG gO gt iJ pu iy dp dA iE cg fi
section
variable {H:au}{b:Nat}{F:aS}{s:SP}{t:TB}{v:KV}{Gw:Int->Prop}{G:Int->Prop}{Q:QT}{r:Int}{a:Option Addr}{l c:Nat}{k:Int}{ar:List Int}{sel:ByteArray}
theorem Px (hK:RK H b F s t) (hv:KAllW s t v) (hU:UW s v Gw) (hp:PairV v) (hr:Rd 1 H a l (az ar)) (Do:∀ w∈r :: ar,cK s.h w≠0->WK v Gw w)
  (K:∀ H' F',RK H' b F' (rK s t v k sel r ar).2.1 (rK s t v k sel r ar).2.2->Up F H F' H'->Q (iY (rK s t v k sel r ar).1) H'):ag PP 68 #[QW b,ac k,.string sel,ac r,.slice a l c] Q H:=by
 have hlen:l=ar.length:=by have:=hr.1;simpa [az] using this.symm
 have an:=hK.lt;apply Mx;dsimp only [aL,aN,aA,aP,bk,aC,ah,ak,bP,aX,ay,aF,bc,aZ,ac,bf,mS,rL,bX,bm,cD,am,aJ,aO,ax,bj,aI];rw [a0l,a0f];have no:¬ xd s k sel r ar->∀ H',Fr [] H H'->Q (.tuple #[ac 0,ac 1]) H':=fun hn H' f=>by
  have e:rK s t v k sel r ar=((0,1),s,t):=by unfold rK;rw [a0a hn]
  rw [e] at K;exact K _ _ (hK.nil f) (Up.of_nil f)
 refine Ev fun H1 f1=>⟨_,rfl,?_⟩;cases JG:wE (cg k) sel with
 | false =>
  rw [a0C,a0P];exact no (fun ⟨n,p,g1,g2,_⟩=>by rw [Bd g1 g2] at JG;cases JG) _ f1
 | true =>
 rw [a0p,a0f];obtain ⟨n,p,he,TX,lj,i7,Jw⟩:=CE JG;have hn9:n<=1000:=by
  rw [←lj];have h1:=sL sel.data.toList;have h2:sel.data.toList.length=sel.size:=a3A;unfold qE;split <;> omega
 refine HL i7 (by omega) ⟨_,rfl,?_⟩;rw [lj,bn,ae];refine aD (fun h0=>no (fun ⟨n',p',g1,_,g3,_⟩=>by rw [he] at g1;cases g1;omega) _ f1) fun h0=>?_;have hn:(ar.length:Int)=n:=by rw [←hlen];exact a0v h0
 refine oT (hK.nil f1) hv ⟨_,rfl,?_⟩;rw [bq,ae];refine aD (fun OA=>no (fun ⟨_,_,_,_,_,g4⟩=>g4 r (by simp) OA) _ f1) fun OA=>?_;have q0:=bI.new H1 #[.pointer none,ac 0,ac 0,ac 0] 191;have q1:=q0.set 0 (QW b);have q2:=q1.set 1 (ac r);have q3:=q2.set 2 (ac 0);refine ⟨q0.wr (by decide),q1.wr (o:=1) (by simp),q2.wr (o:=2) (by simp),q3.wr (o:=3) (by simp),?_⟩;have q4:bI (aQ (aQ (aQ (aQ (H1.push (.cells #[.pointer none,ac 0,ac 0,ac 0] 191)) (⟨H1.size,0,none⟩:Addr) (QW b)) ((⟨H1.size,0,none⟩:Addr).add 1) (ac r)) ((⟨H1.size,0,none⟩:Addr).add 2) (ac 0)) ((⟨H1.size,0,none⟩:Addr).add 3) (ac 0)) H1.size (dc b r 0 0):=q3.set 3 (ac 0);have f12:Fr [] H1 (aQ (aQ (aQ (aQ (H1.push (.cells #[.pointer none,ac 0,ac 0,ac 0] 191)) (⟨H1.size,0,none⟩:Addr) (QW b)) ((⟨H1.size,0,none⟩:Addr).add 1) (ac r)) ((⟨H1.size,0,none⟩:Addr).add 2) (ac 0)) ((⟨H1.size,0,none⟩:Addr).add 3) (ac 0)):=by
  refine ⟨by rw [ck,ck,ck,ck];simp,fun y hy _=>?_⟩;rw [cP (by show y≠H1.size;omega),cP (by show y≠H1.size;omega),cP (by show y≠H1.size;omega),cP (by show y≠H1.size;omega)];exact (Fr.push [] H1 _).2 y hy (by simp)
 generalize (aQ (aQ (aQ (aQ (H1.push (.cells #[.pointer none,ac 0,ac 0,ac 0] 191)) (⟨H1.size,0,none⟩:Addr) (QW b)) ((⟨H1.size,0,none⟩:Addr).add 1) (ac r)) ((⟨H1.size,0,none⟩:Addr).add 2) (ac 0)) ((⟨H1.size,0,none⟩:Addr).add 3) (ac 0))=H2 at q4 f12 ⊢;clear q0 q1 q2 q3;have f02:=f1.trans f12;have i7:=f1.1;refine ⟨fun w H'=>H'=H2∧∃ i:Nat,w=[ac i]∧i<=l∧∀ j,j<i->cK s.h (ar.getD j 0)≠0,fun w _=>match w with
  | [.int _ i]=>((l:Int)-i).toNat
  | _=>0,⟨rfl,0,rfl,a07 _,fun j hj=>absurd hj (Nat.not_lt_zero j)⟩,?_⟩
 rintro w H4 ⟨rfl,i,rfl,hi,O5⟩ _;refine ⟨_,rfl,?_⟩;rw [ae];refine aD (fun b9=>?_) fun JR=>?_
 ·obtain ⟨q,Jf,AT,OE⟩:=(Rd.nilF hr f02).int (i:=(i:Int)) (by omega) (by omega);simp only [a0j] at AT;have e1:IntKind.wrap .i64 ((i:Int)+1)=((i+1:Nat):Int):=by rw [ao (by omega) (by omega)];omega
  refine ⟨⟨by omega,b9⟩,q,Jf,_,by rw [a0j,a0y];exact AT,oT (hK.nil f02) hv ⟨_,rfl,?_⟩⟩;rw [bq,ae];refine aD (fun h0=>no (fun ⟨_,_,_,_,_,g4⟩=>?_) _ f02) fun h0=>?_
  ·have ui:i<ar.length:=by omega
   have hmem:ar.getD i 0∈r :: ar:=by
    rw [a1f,a0Q ui];exact a2F _ (a04 ui)
   exact g4 _ hmem h0
  rw [e1];refine ⟨⟨rfl,i+1,rfl,by omega,fun j hj=>?_⟩,by simp;omega⟩;by_cases JW:j=i
  ·rw [JW];exact h0
  ·exact O5 j (by omega)
 have ui:i=l:=by omega
 subst ui;have D2:∀ w∈r :: ar,cK s.h w≠0:=fun w hw=>by
  rcases a0E.1 hw with rfl | hw
  ·exact OA
  ·obtain ⟨j,hj,rfl⟩:=a2X.1 hw
   have:=O5 j (by omega);rw [a1f,a0Q hj] at this;exact this
 have Ja:xd s k sel r ar:=⟨n,p,he,TX,hn,D2⟩;have frn:∀ {H5 H6:au},Fr [] H H5->Fr [H1.size] H5 H6->Fr [] H H6:=fun {H5 H6} g1 g2=>⟨a0O g1.1 g2.1,fun y hy _=>by rw [g2.2 y (a0X hy g1.1) (by simp;omega),g1.2 y hy (by simp)]⟩;refine ⟨fun w H'=>w=[]∧bI H' H1.size (dc b r (ar.getD 0 0) 0)∧Fr [] H H',?_,?_⟩
 ·rw [ae];refine aD (fun h0=>?_) fun h0=>?_
  ·obtain ⟨q,Jf,AT,OE⟩:=(Rd.nilF hr f02).int (i:=0) (by omega) (by omega);refine ⟨⟨by decide,h0⟩,q,Jf,_,AT,q4.wr (o:=2) (by simp),rfl,?_,frn f02 (Fr.set (by show H1.size∈[H1.size];simp))⟩;exact q4.set 2 _
  ·have I9:ar=[]:=a1o (by omega);subst I9;exact ⟨rfl,q4,f02⟩
 rintro w H6 ⟨rfl,q6,f6⟩ _;refine ⟨rfl,fun w H'=>w=[]∧bI H' H1.size (dc b r (ar.getD 0 0) (ar.getD 1 0))∧Fr [] H H',?_,?_⟩
 ·rw [ae];refine aD (fun h0=>?_) fun h0=>?_
  ·obtain ⟨q,Jf,AT,OE⟩:=(Rd.nilF hr f6).int (i:=1) (by omega) (by omega);refine ⟨⟨by decide,h0⟩,q,Jf,_,AT,q6.wr (o:=3) (by simp),rfl,?_,frn f6 (Fr.set (by show H1.size∈[H1.size];simp))⟩;exact q6.set 3 _
  ·have I9:ar.getD 1 0=0:=by
    rw [a1f,a2I (by omega)];rfl
   rw [I9];exact ⟨rfl,q6,f6⟩
 rintro w H7 ⟨rfl,q7,f7⟩ _;have bad170:¬ (iR v k (cK s.h r)=true∧gd s.h k r=true)->∀ H',Fr [] H H'->Q (.tuple #[ac 0,ac 170]) H':=fun hn H' f=>by
  have e:rK s t v k sel r ar=((0,170),s,t):=by unfold rK;rw [a0b Ja,a0a hn]
  rw [e] at K;exact K _ _ (hK.nil f) (Up.of_nil f)
 have OB:=mB OA;refine ⟨rfl,yF (hK.nil f7) hv fun H8 f8=>⟨_,rfl,?_⟩⟩;have f08:=f7.trans f8;have q8:=q7.fr f8 (by simp);cases It:iR v k (cK s.h r) with
 | false=>rw [a0C,a0P];exact bad170 (fun g=>by rw [It] at g;cases g.1) _ f08
 | true =>
 rw [a0p,a0f];refine ⟨_,q8.cell 0,_,q8.cell 1,_,q8.cell 2,_,q8.cell 3,zT (hK.nil f08) OB fun H9 f9=>⟨_,rfl,?_⟩⟩;have f09:=f08.trans f9;have q9:=q8.fr f9 (by simp);cases Jg:gd s.h k r with
 | false=>rw [a0C,a0P];exact bad170 (fun g=>by rw [Jg] at g;cases g.2) _ f09
 | true =>
 rw [a0p,a0f];rw [tL he TX hn D2 It Jg] at K;have J8:=hK.nil f09;have UA:=Do r (by simp) OA;have a1L:∀ w∈ar,WK v Gw w:=fun w hw=>Do w (by simp [hw]) (D2 w (by simp [hw]));have SL:∀ w∈ar,dL w:=fun w hw=>mB (D2 w (by simp [hw]));obtain ⟨r8,r9,r10,r11,r12,r14,r17⟩:=xk hU hv hp UA OA It;have K9:DR H9 b F s t v r ar (jq p) (fun (v42:Value) (H10:au)=>∃ n43:Int,∃ n44:Int,v42=.tuple #[ac n43,ac n44]∧Q (.tuple #[ac n43,ac n44]) H10):=fun H' F' hk u=>⟨_,_,rfl,K H' F' hk (eZ f09 u)⟩;have hmem:=nE he;unfold fi at hmem;rw [bq,ae];refine aD (fun h4=>?_) fun h4=>?_
 ·rw [a0b h4] at hmem;exact ⟨_,q9.cell 0,_,q9.cell 1,_,q9.cell 2,_,q9.cell 3,QC J8 hv hU hp UA SL OA rfl rfl K9 hmem hn⟩
 rw [a0a h4] at hmem;refine ⟨fun w H'=>w=[.bool (decide (k=6∨k=7))]∧H'=H9,?_,?_⟩
 ·refine dh (fun e=>⟨by rw [a00 (.inr e)],rfl⟩) fun e=>⟨?_,rfl⟩;rw [bq];simp [e]
 rintro w H11 ⟨rfl,rfl⟩ _;refine ⟨_,rfl,?_⟩;rw [ae];refine aD (fun h67=>?_) fun h67=>?_
 ·rw [a0b h67] at hmem;exact ⟨_,q9.cell 0,_,q9.cell 1,_,q9.cell 2,_,q9.cell 3,Qy J8 rfl K9 hmem⟩
 rw [a0a h67] at hmem;refine dh (fun e=>?_) fun h8=>?_
 ·rw [a0b e] at hmem;exact ⟨_,q9.cell 0,_,q9.cell 1,_,q9.cell 2,_,q9.cell 3,QL J8 hv (r8 e) rfl K9 hmem⟩
 rw [a0a h8] at hmem;refine dh (fun e=>?_) fun h9=>?_
 ·rw [a0b e] at hmem;exact ⟨_,q9.cell 0,_,q9.cell 1,_,q9.cell 2,_,q9.cell 3,QJ J8 hv (r9 e) rfl K9 hmem⟩
 rw [a0a h9] at hmem;refine dh (fun e=>?_) fun qz=>?_
 ·rw [a0b e] at hmem;exact ⟨_,q9.cell 0,_,q9.cell 1,_,q9.cell 2,_,q9.cell 3,P2 J8 hv (r10 e) (fun w hw qz=>xW hU hv hp (a1L w hw) qz) rfl rfl K9 hmem hn⟩
 rw [a0a qz] at hmem;refine dh (fun e=>?_) fun I3=>?_
 ·rw [a0b e] at hmem;exact ⟨_,q9.cell 0,_,q9.cell 1,_,q9.cell 2,_,q9.cell 3,PZ J8 hv hU hp UA SL (r11 e) rfl rfl K9 hmem hn⟩
 rw [a0a I3] at hmem;refine dh (fun e=>?_) fun Jb=>?_
 ·rw [a0b e] at hmem;exact ⟨_,q9.cell 0,_,q9.cell 1,_,q9.cell 2,_,q9.cell 3,PI J8 hv (r12 e) rfl K9 hmem⟩
 rw [a0a Jb,a0a r14,a0a r17] at hmem;cases hmem
end
end
section
attribute [local irreducible] iF fD iG gO gt iJ pu iy dp dA
theorem DK.fr {H H':au}{db:Nat}{D X:aS}{s:SP}{t:TB}{ws:List Int} (h:DK H db D s t ws) (hf:Fr X H H') (hd:∀ x∈D,x∉X) (hg:bl∉X) (hp:gP∉X):DK H' db D s t ws:=by
 obtain ⟨b,F,a,l,c,G,rfl,hB,hO,hK,h1,h2,h3,h4,h5,h6⟩:=h;exact ⟨b,F,a,l,c,G,rfl,hB.fr hf (hd _ (by simp)),hO.fr hf (fun x hx=>hd x (by simp [hx])),hK.fr hf (fun x hx=>hd x (by simp [hx])) hg,h1,h2,h3,h4,h5,h6.fr hf hp⟩
section
variable {H0 H H':au}{db:Nat}{D D' X:aS}{s s':SP}{t t':TB}{v:KV}{ws ws':List Int}{N N':Nat}
end
end
section
attribute [local irreducible] bL cy cH
section
variable {H H1 H2:au}{Q:QT}{db:Nat}{D:aS}{s:SP}{t:TB}{ws:List Int}{v:KV}
theorem DK.kern (hD:DK H db D s t ws):∃ b F,aq H ⟨db,0,none⟩=some (QW b)∧PK H b F s t∧(∀ x∈F,x∈D)∧iC H∧∀ H' F' s' t',PK H' b F' s' t'->Up F H F' H'->∃ D',DK H' db D' s' t' ws∧Up D H D' H':=by
 have an:=hD.lt;obtain ⟨b,F,a,l,c,G,rfl,hB,hO,hK,d1,d2,d3,d4,d5,d6⟩:=hD;have JG:=d6.lt;have Tp:=hK.kinds.lt;simp only [a0E,a0T,a21] at d4 d5;refine ⟨b,F,hB.cell 0,hK,fun x hx=>by simp [hx],d6,fun H' F' s' t' w8 u=>⟨db :: (G++F'),⟨b,F',a,l,c,G,rfl,hB.fr u.1 d1,hO.fr u.1 d3,w8,fun hm=>?_,d2,fun x hx hm=>?_,?_,?_,d6.fr u.1 d5.2.2⟩,u.1.mono fun y hy=>by simp [hy],fun y hy=>?_⟩⟩
 ·rcases u.2 db hm with h1 | h1
  ·exact d1 h1
  ·have:=an db (by simp);omega
 ·rcases u.2 x hm with h1 | h1
  ·exact d3 x hx h1
  ·have:=an x (by simp [hx]);omega
 ·simp only [a0E,a0T,a21];refine ⟨d4.1,d4.2.1,fun hm=>?_⟩;rcases u.2 _ hm with h1 | h1
  ·exact d4.2.2 h1
  ·omega
 ·simp only [a0E,a0T,a21];refine ⟨d5.1,d5.2.1,fun hm=>?_⟩;rcases u.2 _ hm with h1 | h1
  ·exact d5.2.2 h1
  ·omega
 ·simp only [a0E,a0T] at hy ⊢;rcases hy with rfl | hy | hy
  ·exact .inl (.inl rfl)
  ·exact .inl (.inr (.inl hy))
  ·exact (u.2 y hy).imp (fun h1=>.inr (.inr h1)) id
end
structure StepP where
 kind:Int
 cls:Int
 sel:ByteArray
 r:Int
 args:List Int
 word:Int
def StepP.vals (x:StepP) (a:Option Addr) (l c:Nat):List Value:=[ac x.kind,ac x.cls,.string x.sel,ac x.r,.slice a l c,ac x.word]
section
variable {H H1 H2:au}{Q:QT}{db:Nat}{D:aS}{s s':SP}{t t':TB}{v:KV}
end
theorem kY {H H':au} (hf:Fr [] H H'){a:Addr}{v:Value} (h:aq H a=some v):aq H' a=some v:=by
 have hb:a.block<H.size:=by
  unfold aq at h;rcases a2t a.block H.size with h1 | h1
  ·exact h1
  ·rw [a2u h1] at h;cases h
 unfold aq at h ⊢;rw [hf.2 _ hb (by simp)];exact h
section
variable {H:au}{Q:QT}{db:Nat}{D:aS}{s:SP}{t:TB}{v:KV}
end
def StepP.ok (H:au) (x:StepP) (a:Option Addr) (l c:Nat):Prop:=Rd 1 H a l (az x.args)∧l<=18000000000000
def ul (H:au) (p:Addr) (x:StepP):Prop:=∃ a l c,(∀ j v,(x.vals a l c)[j]?=some v->aq H (p.add j)=some v)∧x.ok H a l c
def j0 (H:au) (a:Option Addr) (n:Nat) (xs:List StepP):Prop:=xs.length=n∧∀ i x,xs[i]?=some x->∃ p,a=some p∧ul H (p.add (i*6)) x
theorem j0.fr {H H':au} (hf:Fr [] H H'){a:Option Addr}{n:Nat}{xs:List StepP} (h:j0 H a n xs):j0 H' a n xs :=
 ⟨h.1,fun i x hx=>by
  obtain ⟨p,hp,a',l,c,h1,h2,h3⟩:=h.2 i x hx;exact ⟨p,hp,a',l,c,fun j v hv=>kY hf (h1 j v hv),Rd.nilF h2 hf,h3⟩⟩
section
variable {H H1 H4:au}{Q:QT}{db:Nat}{D:aS}{s:SP}{t:TB}{v:KV}
end
end
section
attribute [local irreducible] bL cy cH iF fD iG gO gt iJ pu iy dp dA iE cg
section
variable {s:SP}{t:TB}{v:KV}{Gw:Int->Prop}{r:Int}{ar:List Int}{k:Int}{sel:ByteArray}
theorem L7 (hU:UW s v Gw) (hv:KAllW s t v) (hp:PairV v) (hR:mq v) (Do:∀ w∈r :: ar,cK s.h w≠0->WK v Gw w):PL s t v Gw (rK s t v k sel r ar):=by
 by_cases Ja:xd s k sel r ar
 ·by_cases R5:iR v k (cK s.h r)=true∧gd s.h k r=true
  ·obtain ⟨n,p,he,TX,hn,D2⟩:=Ja;rw [tL he TX hn D2 R5.1 R5.2];have hmem:=nE he;have OA:=D2 r (by simp);have UA:=Do r (by simp) OA;have I9:∀ w∈ar,dL w∧WK v Gw w:=fun w hw=>⟨mB (D2 w (by simp [hw])),Do w (by simp [hw]) (D2 w (by simp [hw]))⟩;obtain ⟨q8,q9,q10,q11,q12,q14,q17⟩:=xk hU hv hp UA OA R5.1;refine N3 hU hv hp hR UA OA I9 ?_;unfold fi at hmem;split at hmem
   ·simp only [qA,a0E,Prod.mk.injEq,a1l,a2h] at hmem;rcases hmem with ⟨rfl,rfl,rfl⟩ | ⟨rfl,rfl,rfl⟩ | ⟨rfl,rfl,rfl⟩ | ⟨rfl,rfl,rfl⟩ | ⟨rfl,rfl,rfl⟩ | ⟨rfl,rfl,rfl⟩ | ⟨rfl,rfl,rfl⟩ | ⟨rfl,rfl,rfl⟩ | ⟨rfl,rfl,rfl⟩ | ⟨rfl,rfl,rfl⟩ | ⟨rfl,rfl,rfl⟩ | ⟨rfl,rfl,rfl⟩
    all_goals exact trivial
   split at hmem
   ·simp only [oX,a0E,Prod.mk.injEq,a1l,a2h] at hmem;rcases hmem with ⟨rfl,rfl,rfl⟩ | ⟨rfl,rfl,rfl⟩ | ⟨rfl,rfl,rfl⟩ | ⟨rfl,rfl,rfl⟩
    all_goals exact trivial
   split at hmem
   ·simp only [qH,a0E,Prod.mk.injEq,a1l,a2h] at hmem;rcases hmem with ⟨rfl,h1,rfl⟩ | ⟨rfl,h1,rfl⟩ | ⟨rfl,h1,rfl⟩ | ⟨rfl,h1,rfl⟩ | ⟨rfl,h1,rfl⟩ | ⟨rfl,h1,rfl⟩ | ⟨rfl,h1,rfl⟩ | ⟨rfl,h1,rfl⟩ | ⟨rfl,h1,rfl⟩ | ⟨rfl,h1,rfl⟩ | ⟨rfl,h1,rfl⟩ | ⟨rfl,h1,rfl⟩ | ⟨rfl,h1,rfl⟩ | ⟨rfl,h1,rfl⟩ | ⟨rfl,h1,rfl⟩ | ⟨rfl,h1,rfl⟩ | ⟨rfl,h1,rfl⟩ | ⟨rfl,h1,rfl⟩ | ⟨rfl,h1,rfl⟩ | ⟨rfl,h1,rfl⟩ | ⟨rfl,h1,rfl⟩ | ⟨rfl,h1,rfl⟩
    all_goals exact trivial
   split at hmem
   ·simp only [qW,a0E,Prod.mk.injEq,a1l,a2h] at hmem;rcases hmem with ⟨rfl,rfl,rfl⟩ | ⟨rfl,rfl,rfl⟩ | ⟨rfl,rfl,rfl⟩
    all_goals exact trivial
   split at hmem
   ·rename_i e;have hs:=q10 e;simp only [mD,a0E,Prod.mk.injEq,a1l,a2h] at hmem;rcases hmem with ⟨rfl,rfl,rfl⟩ | ⟨rfl,rfl,rfl⟩ | ⟨rfl,rfl,rfl⟩ | ⟨rfl,rfl,rfl⟩ | ⟨rfl,rfl,rfl⟩ | ⟨rfl,rfl,rfl⟩ | ⟨rfl,rfl,rfl⟩ | ⟨rfl,rfl,rfl⟩
    all_goals first | exact trivial | exact hs
   split at hmem
   ·rename_i e;have I3:=q11 e;simp only [mH,a0E,Prod.mk.injEq,a1l,a2h] at hmem;rcases hmem with ⟨rfl,rfl,rfl⟩ | ⟨rfl,rfl,rfl⟩ | ⟨rfl,rfl,rfl⟩ | ⟨rfl,rfl,rfl⟩
    all_goals first | exact trivial | exact I3
   split at hmem
   ·rename_i e;have Jb:cK s.h r=12:=by
     have p12:=hp.pl.2.2.2.2.2.2.2.2.1
     have:=tj hp (k:=k) (by omega) (by rw [e];exact p12) (by decide) R5.1;omega
    simp only [mG,a0E,Prod.mk.injEq,a1l,a2h] at hmem;rcases hmem with ⟨rfl,rfl,rfl⟩ | ⟨rfl,rfl,rfl⟩ | ⟨rfl,rfl,rfl⟩ | ⟨rfl,rfl,rfl⟩
    all_goals first | exact Jb | exact ⟨Jb,.inl rfl⟩ | exact ⟨Jb,.inr rfl⟩
   first
    | cases hmem
    | (rw [a0a q14,a0a q17] at hmem;cases hmem)
  ·have e:rK s t v k sel r ar=((0,170),s,t):=by unfold rK;rw [a0b Ja,a0a R5]
   rw [e];exact .look hU hv fun h=>by cases h
 ·have e:rK s t v k sel r ar=((0,1),s,t):=by unfold rK;rw [a0a Ja]
  rw [e];exact .look hU hv fun h=>by cases h
theorem Ds (hv:KAllW s t v) (w:Int):KAllW (s.keepW [w]).2 t v∧(s.keepW [w]).2.h=s.h:=by
 unfold SP.keepW;split
 ·exact ⟨hv,rfl⟩
 rename_i hw;split
 ·exact ⟨hv,rfl⟩
 ·rename_i hl;simp only [a1b,a1s] at hl;have I5:dL w:=a0v fun e=>hw ⟨w,by simp,e⟩;refine ⟨⟨⟨{ hv.ks.wf with many:=by simp;omega,words:=fun x hx=>?_ },hv.ks.gc,hv.ks.op,hv.ks.king,hv.ks.view,hv.ks.sep,hv.ks.shape⟩,hv.names,by simp;omega⟩,rfl⟩;rcases a0T.1 hx with hx | hx
  ·exact hv.ks.wf.words x hx
  ·rw [a0A.1 hx];exact I5
theorem UW.of_h {s':SP} (h:UW s v Gw) (e:s'.h=s.h):UW s' v Gw:=by
 refine ⟨?_,h.gm,?_,?_⟩
 ·rw [e];exact h.base
 ·rw [e];exact h.ni
 ·rw [e];exact h.own
end
theorem o7 {H:au}{Q:QT}{a1 a2:Option Addr}{l1 l2 c1 c2:Nat}{xs ys:List Int} (h1:Rd 1 H a1 l1 (az xs)) (h2:Rd 1 H a2 l2 (az ys)) (hb:l1<=1000000000000000) (h:Q (.bool (decide (xs=ys))) H):ag PP 62 #[.slice a1 l1 c1,.slice a2 l2 c2] Q H:=by
 have e1:l1=xs.length:=by have:=h1.1;simpa [az] using this.symm
 have e2:l2=ys.length:=by have:=h2.1;simpa [az] using this.symm
 apply N1;dsimp only [aP,ah,aX,ay,bc,ac,bf,bX,bm,aI];have no:xs≠ys->Q (.bool false) H:=fun hn=>by rw [a09 hn] at h;exact h
 rw [bn,ae];refine aD (fun ic=>no fun e=>ic (by rw [e1,e2,e])) fun ic=>?_;have hlen:l1=l2:=by omega
 refine ⟨fun w H'=>H'=H∧∃ i:Nat,w=[ac i]∧i<=l1∧xs.take i=ys.take i,fun w _=>match w with
  | [.int _ i]=>(l1-i).toNat
  | _=>0,⟨rfl,0,rfl,a07 _,rfl⟩,?_⟩
 rintro w H1 ⟨rfl,i,rfl,hi,b8⟩ _;refine ⟨_,rfl,?_⟩;rw [ae];refine aD (fun an=>?_) fun an=>?_
 ·obtain ⟨p,rfl,uF,OT⟩:=h1.int (i:=(i:Int)) (by omega) (by omega);obtain ⟨q,rfl,w7,AT⟩:=h2.int (i:=(i:Int)) (by omega) (by omega);have ex:xs.getD (i:Int).toNat 0=xs[i]'(by simpa using OT):=by
   rw [a0j,a1f,a0Q (by simpa using OT)];rfl
  have ey:ys.getD (i:Int).toNat 0=ys[i]'(by simpa using AT):=by
   rw [a0j,a1f,a0Q (by simpa using AT)];rfl
  rw [ex] at uF;rw [ey] at w7;simp only [a0j] at uF OT w7 AT;have e:IntKind.wrap .i64 ((i:Int)+1)=((i+1:Nat):Int):=by rw [ao (by omega) (by omega)];omega
  refine ⟨⟨by omega,by omega⟩,_,rfl,_,by rw [a0j,a0y];exact uF,⟨by omega,by omega⟩,_,rfl,_,by rw [a0j,a0y];exact w7,?_⟩;rw [bn,ae];refine aD (fun he=>no fun e=>he (by subst e;rfl)) fun he=>?_;rw [e];have he':xs[i]=ys[i]:=a0v he;refine ⟨⟨rfl,i+1,rfl,by omega,?_⟩,by simp;omega⟩;rw [a1i,a1i,a0Q OT,a0Q AT,b8,he']
 ·have ui:i=l1:=by omega
  subst ui;rw [a0Y (by omega),a0Y (by omega)] at b8;rw [a00 b8] at h;exact h
structure PSt where
 bp:Nat
 br:Nat
 Fp:aS
 Fq:aS
 Ga:aS
 Gf:aS
 s:SP
 t:TB
 v:KV
 Gw:Int->Prop
 aw:Option Addr
 lw:Nat
 cw:Nat
 ws:List Int
 af:Option Addr
 lf:Nat
 cf:Nat
 fs:List Int
def yS (v:KV):Prop:=mq v∧PairV v∧∀ o,4<=o->o<=17->∃ i,eR v o=some i
structure Twn (H0 H:au) (pb:Nat) (x:PSt):Prop where
 blk:bI H pb #[.pointer (some ⟨x.bp,0,none⟩),.pointer (some ⟨x.br,0,none⟩),.slice x.aw x.lw x.cw,.slice x.af x.lf x.cf]
 ow:bZ 1 H x.aw x.lw x.cw (az x.ws) x.Ga
 ofl:bZ 1 H x.af x.lf x.cf (az x.fs) x.Gf
 p:PK H x.bp x.Fp x.s x.t
 r:RK H x.br x.Fq x.s x.t
 na:pb∉x.Ga
 nf:pb∉x.Gf
 np:pb∉x.Fp
 nq:pb∉x.Fq
 daf:bU x.Ga x.Gf
 dap:bU x.Ga x.Fp
 daq:bU x.Ga x.Fq
 dfp:bU x.Gf x.Fp
 dfq:bU x.Gf x.Fq
 dpq:bU x.Fp x.Fq
 tab:iC H
 gk:bl<H0.size
 gp:gP<H0.size
 nb:H0.size<=pb
 n1:∀ y∈x.Ga,H0.size<=y
 n2:∀ y∈x.Gf,H0.size<=y
 n3:∀ y∈x.Fp,H0.size<=y
 n4:∀ y∈x.Fq,H0.size<=y
 fr:Fr [] H0 H
 all:KAllW x.s x.t x.v
 uw:UW x.s x.v x.Gw
 kv:yS x.v
 words:∀ w∈x.ws,WK x.v x.Gw w
section
variable {H0 H H1 H2:au}{pb:Nat}{x:PSt}{Q:QT}
theorem Twn.lw (h:Twn H0 H pb x):x.ws.length=x.lw:=by have:=h.ow.len;simpa [az] using this
theorem Twn.lf (h:Twn H0 H pb x):x.fs.length=x.lf:=by have:=h.ofl.len;simpa [az] using this
theorem Twn.nil (h:Twn H0 H pb x) (f:Fr [] H H1):Twn H0 H1 pb x :=
 { h with blk:=h.blk.fr f (by simp),ow:=h.ow.fr f (by simp),ofl:=h.ofl.fr f (by simp),p:=h.p.nil f,r:=h.r.nil f,tab:=h.tab.fr f (by simp),fr:=h.fr.trans f }
theorem Twn.kern (h:Twn H0 H pb x){Fp' Fq':aS}{s':SP}{t':TB}{v':KV}{G':Int->Prop} (hP:PK H1 x.bp Fp' s' t') (u1:Up x.Fp H Fp' H1) (hR:RK H2 x.br Fq' s' t') (u2:Up x.Fq H1 Fq' H2) (hv:KAllW s' t' v') (hU:UW s' v' G') (hk:yS v') (hw:∀ w∈x.ws,WK v' G' w) :
  Twn H0 H2 pb { x with Fp:=Fp',Fq:=Fq',s:=s',t:=t',v:=v',Gw:=G' }:=by
 have hs:=u1.1.1;have Jw:=u2.1.1;have VG:=h.fr.1;have lb:=h.blk.lt;have la:=h.ow.lt;have lf:=h.ofl.lt;have lq:=h.r.lt;have lp1:=hP.lt;have Wk:=h.gk;have hgp:=h.gp;have n3:=h.n3;have n4:=h.n4;have out1:∀ {y},y∉x.Fp->y<H.size->y∉Fp':=fun h1 h2=>Up.out u1 h1 h2;have out2:∀ {y},y∉x.Fq->y<H.size->y∉Fq':=fun h1 h2=>Up.out u2 h1 (by omega);have dq:bU Fp' x.Fq:=fun y hy hm=>by
  rcases u1.2 y hy with h1 | h1
  ·exact h.dpq y h1 hm
  ·have:=lq y hm;omega
 exact { blk:=(h.blk.fr u1.1 h.np).fr u2.1 h.nq,ow:=(h.ow.fr u1.1 h.dap).fr u2.1 h.daq,ofl:=(h.ofl.fr u1.1 h.dfp).fr u2.1 h.dfq,p:=hP.fr u2.1 dq (fun hm=>by have:=n4 _ hm;omega),r:=hR,na:=h.na,nf:=h.nf,np:=out1 h.np lb,nq:=out2 h.nq lb,daf:=h.daf,dap:=fun y hy=>out1 (h.dap y hy) (la y hy),daq:=fun y hy=>out2 (h.daq y hy) (la y hy),dfp:=fun y hy=>out1 (h.dfp y hy) (lf y hy),dfq:=fun y hy=>out2 (h.dfq y hy) (lf y hy),dpq:=fun y hy hm=>(by
   rcases u2.2 y hm with h1 | h1
   ·exact dq y hy h1
   ·have:=lp1 y hy;omega),tab:=(h.tab.fr u1.1 (fun hm=>by have:=n3 _ hm;omega)).fr u2.1 (fun hm=>by have:=n4 _ hm;omega),gk:=h.gk,gp:=h.gp,nb:=h.nb,n1:=h.n1,n2:=h.n2,n3:=fun y hy=>(by
   rcases u1.2 y hy with h1 | h1
   ·exact n3 y h1
   ·omega),n4:=fun y hy=>(by
   rcases u2.2 y hy with h1 | h1
   ·exact n4 y h1
   ·omega),fr:=⟨by omega,fun y hy _=>by rw [u2.1.2 y (by omega) (fun hm=>by have:=n4 _ hm;omega),u1.1.2 y (by omega) (fun hm=>by have:=n3 _ hm;omega),h.fr.2 y hy (by simp)]⟩,all:=hv,uw:=hU,kv:=hk,words:=hw }
theorem Twn.wset (h:Twn H0 H pb x){a':Option Addr}{l' c':Nat}{ws':List Int}{G':aS} (ho:bZ 1 H1 a' l' c' (az ws') G') (u:Up x.Ga H G' H1) (hw:∀ w∈ws',WK x.v x.Gw w) :
  Wr H1 ((⟨pb,0,none⟩:Addr).add 2)∧Twn H0 (aQ H1 ((⟨pb,0,none⟩:Addr).add 2) (.slice a' l' c')) pb { x with aw:=a',lw:=l',cw:=c',ws:=ws',Ga:=G' }:=by
 have hs:=u.1.1;have VG:=h.fr.1;have lb:=h.blk.lt;have lf:=h.ofl.lt;have lp:=h.p.lt;have lq:=h.r.lt;have Wk:=h.gk;have hgp:=h.gp;have Of:=h.nb;have n1:=h.n1;have n1':∀ y∈G',H0.size<=y:=fun y hy=>by
  rcases u.2 y hy with h1 | h1
  ·exact n1 y h1
  ·omega
 have out1:∀ {y},y∉x.Ga->y<H.size->y∉G':=fun h1 h2=>Up.out u h1 h2;have cj:=h.blk.fr u.1 h.na;have f2:Fr [pb] H1 (aQ H1 ((⟨pb,0,none⟩:Addr).add 2) (.slice a' l' c')):=Fr.set (by show pb∈[pb];simp);have ne:∀ {F:aS},pb∉F->∀ y∈F,y∉[pb]:=fun hn y hy hm=>hn (a0A.1 hm ▸ hy);have gkb:bl∉[pb]:=fun hm=>by have:=a0A.1 hm;omega
 have gpb:gP∉[pb]:=fun hm=>by have:=a0A.1 hm;omega
 exact ⟨cj.wr (o:=2) (by simp),{ blk:=cj.set 2 _,ow:=ho.fr f2 (ne (out1 h.na lb)),ofl:=(h.ofl.fr u.1 h.daf.symm).fr f2 (ne h.nf),p:=(h.p.fr u.1 h.dap.symm (fun hm=>by have:=n1 _ hm;omega)).fr f2 (ne h.np) gkb,r:=(h.r.fr u.1 h.daq.symm).fr f2 (ne h.nq),na:=out1 h.na lb,nf:=h.nf,np:=h.np,nq:=h.nq,daf:=fun y hy hm=>out1 (h.daf.symm y hm) (lf y hm) hy,dap:=fun y hy hm=>out1 (h.dap.symm y hm) (lp y hm) hy,daq:=fun y hy hm=>out1 (h.daq.symm y hm) (lq y hm) hy,dfp:=h.dfp,dfq:=h.dfq,dpq:=h.dpq,tab:=(h.tab.fr u.1 (fun hm=>by have:=n1 _ hm;omega)).fr f2 gpb,gk:=h.gk,gp:=h.gp,nb:=h.nb,n1:=n1',n2:=h.n2,n3:=h.n3,n4:=h.n4,fr:=⟨a0O (a0O VG hs) f2.1,fun y hy _=>by rw [f2.2 y (by omega) (fun hm=>by have:=a0A.1 hm;omega),u.1.2 y (by omega) (fun hm=>by have:=n1 _ hm;omega),h.fr.2 y hy (by simp)]⟩,all:=h.all,uw:=h.uw,kv:=h.kv,words:=hw }⟩
theorem Twn.fset (h:Twn H0 H pb x){a':Option Addr}{l' c':Nat}{fs':List Int}{G':aS} (ho:bZ 1 H1 a' l' c' (az fs') G') (u:Up x.Gf H G' H1) :
  Wr H1 ((⟨pb,0,none⟩:Addr).add 3)∧Twn H0 (aQ H1 ((⟨pb,0,none⟩:Addr).add 3) (.slice a' l' c')) pb { x with af:=a',lf:=l',cf:=c',fs:=fs',Gf:=G' }:=by
 have hs:=u.1.1;have VG:=h.fr.1;have lb:=h.blk.lt;have la:=h.ow.lt;have lp:=h.p.lt;have lq:=h.r.lt;have Wk:=h.gk;have hgp:=h.gp;have Of:=h.nb;have n2:=h.n2;have n2':∀ y∈G',H0.size<=y:=fun y hy=>by
  rcases u.2 y hy with h1 | h1
  ·exact n2 y h1
  ·omega
 have out1:∀ {y},y∉x.Gf->y<H.size->y∉G':=fun h1 h2=>Up.out u h1 h2;have cj:=h.blk.fr u.1 h.nf;have f2:Fr [pb] H1 (aQ H1 ((⟨pb,0,none⟩:Addr).add 3) (.slice a' l' c')):=Fr.set (by show pb∈[pb];simp);have ne:∀ {F:aS},pb∉F->∀ y∈F,y∉[pb]:=fun hn y hy hm=>hn (a0A.1 hm ▸ hy);have gkb:bl∉[pb]:=fun hm=>by have:=a0A.1 hm;omega
 have gpb:gP∉[pb]:=fun hm=>by have:=a0A.1 hm;omega
 exact ⟨cj.wr (o:=3) (by simp),{ blk:=cj.set 3 _,ow:=(h.ow.fr u.1 h.daf).fr f2 (ne h.na),ofl:=ho.fr f2 (ne (out1 h.nf lb)),p:=(h.p.fr u.1 h.dfp.symm (fun hm=>by have:=n2 _ hm;omega)).fr f2 (ne h.np) gkb,r:=(h.r.fr u.1 h.dfq.symm).fr f2 (ne h.nq),na:=h.na,nf:=out1 h.nf lb,np:=h.np,nq:=h.nq,daf:=fun y hy=>out1 (h.daf y hy) (la y hy),dap:=h.dap,daq:=h.daq,dfp:=fun y hy hm=>out1 (h.dfp.symm y hm) (lp y hm) hy,dfq:=fun y hy hm=>out1 (h.dfq.symm y hm) (lq y hm) hy,dpq:=h.dpq,tab:=(h.tab.fr u.1 (fun hm=>by have:=n2 _ hm;omega)).fr f2 gpb,gk:=h.gk,gp:=h.gp,nb:=h.nb,n1:=h.n1,n2:=n2',n3:=h.n3,n4:=h.n4,fr:=⟨a0O (a0O VG hs) f2.1,fun y hy _=>by rw [f2.2 y (by omega) (fun hm=>by have:=a0A.1 hm;omega),u.1.2 y (by omega) (fun hm=>by have:=n2 _ hm;omega),h.fr.2 y hy (by simp)]⟩,all:=h.all,uw:=h.uw,kv:=h.kv,words:=h.words }⟩
def PSt.D (x:PSt) (pb:Nat):aS:=pb :: (x.Ga++x.Gf++x.Fp++x.Fq)
theorem rl (h:Twn H0 H pb x) (hl:x.ws.length<=100000000000){w:Int} (hw:WK x.v x.Gw w) (K:∀ H' x',Twn H0 H' pb x'->x'.ws=x.ws++[w]->x'.v=x.v->x'.Gw=x.Gw->Up (x.D pb) H (x'.D pb) H'->Q (.tuple #[]) H'):ag PP 41 #[QW pb,ac w] Q H:=by
 have Ty:bd PP 30=some (1,8,some (ac 0)):=by kernel_rfl
 have VE:=h.lw;apply ML;dsimp only [aL,aC,du,aK,aF,ac,av,aE,am,aJ,bM,bj,bJ];refine ⟨_,rfl,_,h.blk.cell 0,dX h.p fun sb F1 _ hS ff s6 _=>⟨_,rfl,?_⟩⟩;have f1:=Fr.push [] H (.cells #[ac w] 26);refine rj (hS.nilfr f1) (zo H w _) (by decide) fun Ha F1' J2 u2=>⟨_,rfl,?_⟩;obtain ⟨Fp',hP2,u2'⟩:=s6 Ha F1' _ J2 (eZ f1 u2);have Jn:=h.r.fr u2'.1 h.dpq.symm;have k8:=h.blk.fr u2'.1 h.np;obtain ⟨sb2,F2,w7,So,_,_,VH⟩:=Jn.sp;refine ⟨_,rfl,_,k8.cell 1,_,rfl,_,w7,?_⟩;have f3:=Fr.push [] Ha (.cells #[ac w] 26);refine ww (So.fr f3 (bU.nil_right _)) (zo Ha w _) (by decide) fun Hb F2' Vn u3=>⟨_,rfl,?_⟩;obtain ⟨Fq',Uk,u3'⟩:=VH Hb F2' _ Vn (eZ f3 u3);obtain ⟨k1,k2⟩:=Ds h.all w;have h3:=h.kern hP2 u2' Uk u3' k1 (h.uw.of_h k2) h.kv h.words;refine ⟨_,rfl,_,_,_,h3.blk.cell 2,?_⟩;refine bK Ty rfl (by kernel_rfl) h3.ow rfl (by simp [dJ]) (by simp only;omega) (by decide) (by decide) fun a4 c4 G4 Hc hO4 u4 _=>⟨_,_,_,rfl,_,rfl,?_⟩;have e:az (x.ws++[w])=az x.ws++[ac w]:=by simp [az]
 obtain ⟨g1,g2⟩:=h3.wset (ws':=x.ws++[w]) (by rw [e];exact hO4) u4 fun z hz=>by
  rcases a0T.1 hz with hz | hz
  ·exact h.words z hz
  ·rw [a0A.1 hz];exact hw
 refine ⟨g1,K _ _ g2 rfl rfl rfl ⟨?_,fun y hy=>?_⟩⟩
 ·have f5:Fr [pb] Hc (aQ Hc ((⟨pb,0,none⟩:Addr).add 2) (.slice a4 (x.lw+1) c4)):=Fr.set (by rw [aB];show pb∈[pb];simp);have s1:=u2'.1.1;have s2:=u3'.1.1;have s3:=u4.1.1;have s4:=f5.1;refine ⟨a0O (a0O (a0O s1 s2) s3) s4,fun y hy hn=>?_⟩;simp only [PSt.D,a0E,a0T,a21] at hn;obtain ⟨m1,⟨⟨m2,m3⟩,m4⟩,m5⟩:=hn;rw [f5.2 y (by omega) (by simpa using m1),u4.1.2 y (by omega) m2,u3'.1.2 y (by omega) m5,u2'.1.2 y hy m4]
 ·have s1:=u2'.1.1;have s2:=u3'.1.1;simp only [PSt.D,a0E,a0T] at hy ⊢;rcases hy with hy | ((hy | hy) | hy) | hy
  ·exact .inl (.inl hy)
  ·rcases u4.2 y hy with h1 | h1
   ·exact .inl (.inr (.inl (.inl (.inl h1))))
   ·exact .inr (by omega)
  ·exact .inl (.inr (.inl (.inl (.inr hy))))
  ·rcases u2'.2 y hy with h1 | h1
   ·exact .inl (.inr (.inl (.inr h1)))
   ·exact .inr h1
  ·rcases u3'.2 y hy with h1 | h1
   ·exact .inl (.inr (.inr h1))
   ·exact .inr (by omega)
theorem uj (h:Twn H0 H pb x) (h0:0<x.ws.length) (hl:x.ws.length<=100000000000){n:Int} (K:∀ w∈x.ws,Q (ac w) H):ag PP 105 #[QW pb,ac n] Q H:=by
 have VE:=h.lw;have hB:=h.blk;have hO:=h.ow;apply Iy;dsimp only [ah,ay,aK,bc,ac,bf,aE,ax,aI];generalize x.lw=l1 at *;have t1:-(l1:Int)<Int.tmod n l1∧Int.tmod n l1<l1:=(mW (n:=n) (m:=(l1:Int)) (by omega)).1 (by omega);have w1:IntKind.wrap .i64 (Int.tmod n l1+l1)=Int.tmod n l1+l1:=ao (by omega) (by omega);have t2:=(mW (n:=Int.tmod n l1+l1) (m:=(l1:Int)) (by omega)).1 (by omega);have t3:0<=Int.tmod (Int.tmod n l1+l1) l1:=a4H _ (by omega);refine ⟨_,rfl,_,_,_,hB.cell 2,_,rfl,_,_,_,hB.cell 2,?_⟩;rw [ae,a0a (by omega),ae,a0a (by omega),w1];generalize Int.tmod (Int.tmod n l1+l1) l1=m at t2 t3 ⊢;obtain ⟨p,hp,hc,an⟩:=hO.rd.int (i:=m) t3 t2.2;refine ⟨⟨t3,t2.2⟩,p,hp,_,by rw [a0y];exact hc,K _ ?_⟩;rw [a1f,a0Q an];exact a04 an
end
theorem Ca {H:au}{a:Option Addr}{l l':Nat}{xs ys:List Value} (h:Rd 1 H a l' (xs++ys)) (hl:l=xs.length):Rd 1 H a l xs:=by
 have h1:=h.1;simp only [a1h] at h1;refine ⟨by omega,fun ha=>by have:=h.2.1 ha;omega,fun p hp i hi=>?_⟩;rw [h.2.2 p hp i (by omega),a2x (by omega)]
theorem oM {l:List Int}:∀ v∈az l,dJ v=true:=fun v hv=>by
 unfold az at hv;obtain ⟨z,_,rfl⟩:=a1n.1 hv;rfl
theorem wN {n c:Nat} (h:c<n) (hn:n<=18000000000100):Builtin.nextslicecap n c*8<=281474976710656:=by
 have:=oA h;omega
section
variable {H0 H H1:au}{pb:Nat}{x:PSt}{Q:QT}
def Pk (H:au) (pb:Nat) (x:PSt) (a:Option Addr):Prop:=∀ p,a=some p->p.block<H.size∧p.block≠pb∧p.block∉x.Gf∧p.block∉x.Fp∧p.block∉x.Fq
theorem Twn.young (h:Twn H0 H pb x){a:Option Addr}{l c:Nat}{xs:List Value}{G:aS}{H1:au} (ho:bZ 1 H1 a l c xs G) (hG:∀ y∈G,H.size<=y):Pk H1 pb x a:=fun p hp=>by
 have h1:=bZ.out ho (F:=[]) (bU.nil_right _) p hp;have hm:p.block∈G:=by
  rcases ho.2.2 with ⟨h2,_⟩ | ⟨b',cs,h2,rfl,_⟩
  ·rw [h2] at hp;cases hp
  ·rw [h2] at hp;cases hp;simp
 have JR:=hG _ hm;have lb:=h.blk.lt;refine ⟨h1.1,by omega,fun hm=>?_,fun hm=>?_,fun hm=>?_⟩
 ·have:=h.ofl.lt _ hm;omega
 ·have:=h.p.lt _ hm;omega
 ·have:=h.r.lt _ hm;omega
theorem Twn.fset2 (h:Twn H0 H pb x){H1:au}{a':Option Addr}{l' c':Nat}{fs':List Int}{G':aS} (ho:bZ 1 H1 a' l' c' (az fs') G') (u:Up x.Gf H G' H1) :
  ∃ y:PSt,Wr H1 ((⟨pb,0,none⟩:Addr).add 3)∧Twn H0 (aQ H1 ((⟨pb,0,none⟩:Addr).add 3) (.slice a' l' c')) pb y∧y.fs=fs'∧y.ws=x.ws∧y.s=x.s∧y.t=x.t∧y.v=x.v∧y.Gw=x.Gw∧y.Fp=x.Fp∧y.Fq=x.Fq∧y.Gf=G' :=
 ⟨_,(h.fset ho u).1,(h.fset ho u).2,rfl,rfl,rfl,rfl,rfl,rfl,rfl,rfl,rfl⟩
theorem Twn.kern2 (h:Twn H0 H pb x){H1 H2:au}{Fp' Fq':aS}{s':SP}{t':TB}{v':KV}{G':Int->Prop} (hP:PK H1 x.bp Fp' s' t') (u1:Up x.Fp H Fp' H1) (hR:RK H2 x.br Fq' s' t') (u2:Up x.Fq H1 Fq' H2) (hv:KAllW s' t' v') (hU:UW s' v' G') (hk:yS v') (hw:∀ w∈x.ws,WK v' G' w) :
  ∃ y:PSt,Twn H0 H2 pb y∧y.fs=x.fs∧y.ws=x.ws∧y.s=s'∧y.t=t'∧y.v=v'∧y.Gw=G' :=
 ⟨_,h.kern hP u1 hR u2 hv hU hk hw,rfl,rfl,rfl,rfl,rfl,rfl⟩
theorem yZ {H Ha:au}{G G':aS}{o:Nat}{z:Value} (u:Up G H G' Ha):Fr (pb :: G) H (aQ Ha ((⟨pb,0,none⟩:Addr).add o) z):=by
 have f2:Fr [pb] Ha (aQ Ha ((⟨pb,0,none⟩:Addr).add o) z):=Fr.set (by rw [aB];show pb∈[pb];simp);refine ⟨a0O u.1.1 f2.1,fun y hy hn=>?_⟩;simp only [a0E,a21] at hn;rw [f2.2 y (a0X hy u.1.1) (by simpa using hn.1),u.1.2 y hy hn.2]
theorem jV (h:Twn H0 H pb x) (hl:x.ws.length<=99999999999){k r:Int}{sel:ByteArray}{a5:Option Addr}{l5 c5:Nat}{ar:List Int} (hr:Rd 1 H a5 l5 (az ar)) (hl5:l5<=18000000000000) (hout:Pk H pb x a5) (Do:∀ w∈r :: ar,cK x.s.h w≠0->WK x.v x.Gw w)
  (K:∀ H' x',Twn H0 H' pb x'->(x'.ws=x.ws∨∃ w,x'.ws=x.ws++[w])->Q (.bool true) H'):ag PP 21 #[QW pb,ac k,.string sel,ac r,.slice a5 l5 c5] Q H:=by
 have Ty:bd PP 30=some (1,8,some (ac 0)):=by kernel_rfl
 have hlen:l5=ar.length:=by have:=hr.1;simpa [az] using this.symm
 have o0:bZ 1 H x.af 0 x.cf (az []) x.Gf:=wo (m:=x.lf) (ys:=az x.fs) (by rw [a0K];exact h.ofl) rfl;apply M2;dsimp only [aL,aP,bk,aC,ah,ak,fe,ay,aK,aF,bc,ac,bf,av,aE,am,aJ,bM,aO,ax,bj,aI];refine ⟨_,rfl,_,_,_,h.blk.cell 3,⟨a1F _,by omega⟩,?_⟩;rw [show Int.toNat 0=0 from rfl];refine ir Ty rfl (by kernel_rfl) o0 hr oM (fun c hc=>wN hc (by omega)) (by decide) fun a9 c9 G9 Ha Vh u1 _=>⟨_,_,_,rfl,_,rfl,?_⟩;obtain ⟨y1,w1,t1,fs1,ws1,es1,et1,ev1,eG1,eP1,eQ1,ef1⟩:=h.fset2 (fs':=ar) Vh u1;refine ⟨w1,_,rfl,_,_,_,t1.blk.cell 3,?_⟩;have f1:=yZ (pb:=pb) (o:=3) (z:=.slice a9 (0+l5) c9) u1;have a1N:∀ p,a5=some p->p.block∉G9:=fun p hp=>Up.out u1 (hout p hp).2.2.1 (hout p hp).1;generalize (aQ Ha ((⟨pb,0,none⟩:Addr).add 3) (.slice a9 (0+l5) c9))=H2 at w1 t1 f1 ⊢;have f3:=Fr.push [] H2 (.cells #[ac (-7),ac (-8)] 26);have Sw:Rd 1 (H2.push (.cells #[ac (-7),ac (-8)] 26)) (some ⟨H2.size,0,none⟩) 2 (az [-7,-8]):=jm (cs:=[-7,-8]);have l1:=t1.lf;rw [fs1] at l1;have o1:=t1.ofl;rw [fs1] at o1;refine ir Ty rfl (by kernel_rfl) (o1.fr f3 (by simp)) Sw oM (fun c hc=>wN hc (by omega)) (by decide) fun a14 c14 G14 H3 hO3 u3 _=>⟨_,_,_,rfl,_,rfl,?_⟩;have u3':=eZ f3 u3;have R9:=hO3.2.1;obtain ⟨y2,w2,t2,fs2,ws2,es2,et2,ev2,eG2,eP2,eQ2,ef2⟩:=t1.fset2 (fs':=ar++[-7,-8]) (by rw [bR];exact hO3) u3';refine ⟨w2,_,rfl,_,_,_,t2.blk.cell 3,_,rfl,_,t2.blk.cell 0,?_⟩;have f4:=yZ (pb:=pb) (o:=3) (z:=.slice a14 (y1.lf+2) c14) u3';rw [ef1] at f4;generalize (aQ H3 ((⟨pb,0,none⟩:Addr).add 3) (.slice a14 (y1.lf+2) c14))=H4 at w2 t2 f4 ⊢;have OD:Rd 1 H4 a5 l5 (az ar):=by
  refine (hr.fr' f1 fun p hp=>?_).fr' f4 fun p hp=>?_
  ·simp only [a0E,a21];exact ⟨(hout p hp).2.1,(hout p hp).2.2.1⟩
  ·simp only [a0E,a21];exact ⟨(hout p hp).2.1,a1N p hp⟩
 have l2:=t2.lf;have Ue:=t2.ofl.2.1;rw [fs2] at l2;simp only [a1h,a1b,a1s] at l2;rw [es1] at es2;rw [et1] at et2;rw [ev1] at ev2;rw [eG1] at eG2;rw [eP1] at eP2;rw [eQ1] at eQ2;rw [ws1] at ws2;have Tg:∀ w∈r :: ar,cK y2.s.h w≠0->WK y2.v y2.Gw w:=by rw [es2,ev2,eG2];exact Do
 refine ⟨⟨by omega,by omega⟩,?_⟩;rw [a0j];have rF:=t2.ofl.rd;rw [fs2,bR] at rF;have hrF:=Ca (l:=l5) rF (by simp [az];exact hlen);have pl:=L7 (k:=k) (sel:=sel) (r:=r) (ar:=ar) t2.uw t2.all t2.kv.2.1 t2.kv.1 Tg;refine PQ t2.p t2.all t2.uw t2.kv.2.1 t2.tab hrF (fun p hp=>(bZ.out t2.ofl t2.dfp p hp).2) Tg fun H5 Fp' hP5 u5=>⟨_,_,rfl,trivial,?_⟩;have RZ:Rd 1 H5 a5 l5 (az ar):=OD.fr' u5.1 fun p hp=>by rw [eP2];exact (hout p hp).2.2.2.1
 refine ⟨_,rfl,_,(t2.blk.fr u5.1 t2.np).cell 1,Px (t2.r.fr u5.1 t2.dpq.symm) t2.all t2.uw t2.kv.2.1 RZ Tg fun H6 Fq' SA u6=>⟨_,_,rfl,?_⟩⟩;have VR:Rd 1 H6 a5 l5 (az ar):=RZ.fr' u6.1 fun p hp=>by rw [eQ2];exact (hout p hp).2.2.2.2
 obtain ⟨G',hm,hU',XH⟩:=pl.uw;obtain ⟨y3,t3,fs3,ws3,es3,et3,ev3,eG3⟩:=t2.kern2 hP5 u5 SA u6 pl.all hU' t2.kv fun w hw=>(t2.words w hw).mono hm;have hsl:∀ {i:Nat},y3.fs=ar++[-7,-8]:=fun {_}=>fs3.trans fs2;have rA:Rd 1 H6 y2.af y2.lf (az (ar++[-7,-8])):=by
  have:=(t2.ofl.fr u5.1 t2.dfp).fr u6.1 t2.dfq;rw [fs2] at this;exact this.rd
 generalize rK y2.s y2.t y2.v k sel r ar=R at XH ⊢;rw [bn,ae,a0a (fun hn=>hn rfl)];refine jC ⟨_,rfl,?_⟩;rw [bn,ae,a0a (fun hn=>hn rfl)];have rA':=rA;rw [bR] at rA';refine ⟨⟨by omega,by omega⟩,?_⟩;refine o7 (Ca (l:=l5) rA' (by simp [az];exact hlen)) VR (by omega) ⟨_,rfl,?_⟩;rw [a00 rfl,a0p,a0f];obtain ⟨p1,hp1,uF,_⟩:=rA.int (i:=(l5:Int)) (by omega) (by omega);have e7:(ar++[-7,-8]:List Int).getD l5 0=-7:=by
  rw [a1f,a2Z (by omega),hlen,a4b];rfl
 have e8:(ar++[-7,-8]:List Int).getD (l5+1) 0=-8:=by
  rw [a1f,a2Z (by omega),hlen,Nat.add_sub_cancel_left];rfl
 rw [a0j,e7] at uF;refine ⟨⟨by omega,by omega⟩,p1,hp1,_,by rw [a0y];exact uF,?_⟩;rw [bn,ae,a0a (fun hn=>hn rfl),ao (n:=(l5:Int)+1) (by omega) (by omega)];obtain ⟨p2,OT,w7,_⟩:=rA.int (i:=(l5:Int)+1) (by omega) (by omega);have ei:((l5:Int)+1).toNat=l5+1:=by omega
 rw [ei,e8] at w7;refine ⟨⟨by omega,by omega⟩,p2,OT,_,by rw [ei,a0y];exact w7,?_⟩;rw [bn,ae,a0a (fun hn=>hn rfl)];have ew:y3.ws=x.ws:=ws3.trans ws2;refine dh (fun e=>?_) fun _=>K _ _ t3 (.inl ew);exact rl t3 (by rw [ew];omega) (by rw [ev3,eG3];exact XH e) fun H' x' t' e1 _ _ _=>⟨rfl,K _ _ t' (.inr ⟨_,by rw [e1,ew]⟩)⟩
def wk (x:PSt) (N:Nat):Prop:=10<=x.ws.length∧x.ws.length<=N
theorem wk.more {x x':PSt}{N:Nat} (h:wk x N) (e:x'.ws=x.ws∨∃ w,x'.ws=x.ws++[w]):wk x' (N+1):=by
 obtain ⟨h1,h2⟩:=h;unfold wk;rcases e with e | ⟨w,e⟩
 ·rw [e];omega
 ·rw [e];simp only [a1h,a1b,a1s];omega
theorem zr (h:Twn H0 H pb x) (h0:0<x.ws.length) (hl:x.ws.length<=99999999999){G:au->Option Addr->Nat->Nat->Prop}{Hs:au} (fs:Fr [] H Hs){b:Nat}{c0 c1 c2 c3 c5:Value}{a6:Option Addr}{l6 c6:Nat}{ix:List Int} (hB:bI Hs b #[c0,c1,c2,c3,.slice a6 l6 c6,c5]) (hr:Rd 1 Hs a6 l6 (az ix)) (SF:l6<=18000000000000)
  (K:∀ a l c A ar H',bZ 1 H' a l c (az ar) A->(∀ y∈A,Hs.size<=y)->l<=18000000000000->(∀ w∈ar,w∈x.ws)->Fr [] Hs H'->G H' a l c) :
  ∃(I8:List Value->au->Prop) (μ8:List Value->au->Nat),I8 [.slice none 0 0,ac 0] Hs∧∀ w9 H1,I8 w9 H1->∀ _g:Nat->Value,∃ a10:Option Addr,∃ l10:Nat,∃ c10:Nat,∃ n11:Int,w9=[.slice a10 l10 c10,ac n11]∧∃ a12:Option Addr,∃ l12:Nat,∃ c12:Nat,aq H1 ((⟨b,0,none⟩:Addr).add 4)=some (.slice a12 l12 c12)∧cond (decide (n11<(l12:Int))) (∃ a13:Option Addr,∃ l13:Nat,∃ c13:Nat,aq H1 ((⟨b,0,none⟩:Addr).add 4)=some (.slice a13 l13 c13)∧((0:Int)<=n11∧n11<(l13:Int))∧∃ q14,a13=some q14∧∃ n15:Int,aq H1 (q14.add (Int.toNat n11*1))=some (ac n15)∧ag PP 105 #[QW pb,ac n15] (fun v16 H2=>∃ n17:Int,v16=ac n17∧cB PP (Builtin.append_ #[30,30] 30 #[.slice a10 l10 c10,.slice (some (⟨H2.size,0,none⟩:Addr)) 1 1]) (fun v18 H3=>∃ a19:Option Addr,∃ l19:Nat,∃ c19:Nat,v18=.slice a19 l19 c19∧I8 [.slice a19 l19 c19,ac (IntKind.wrap .i64 (n11+1))] H3∧μ8 [.slice a19 l19 c19,ac (IntKind.wrap .i64 (n11+1))] H3<μ8 w9 H1) (H2.push (.cells #[ac n17] 26))) H1) (G H1 a10 l10 c10):=by
 have Ty:bd PP 30=some (1,8,some (ac 0)):=by kernel_rfl
 refine ⟨fun w H'=>∃(i:Nat) (a:Option Addr) (c:Nat) (A:aS) (ar:List Int),w=[.slice a i c,ac i]∧i<=l6∧bZ 1 H' a i c (az ar) A∧(∀ y∈A,Hs.size<=y)∧(∀ w∈ar,w∈x.ws)∧Fr [] Hs H',fun w _=>match w with
  | [_,.int _ i]=>((l6:Int)-i).toNat
  | _=>0,⟨0,none,0,[],[],rfl,a07 _,bZ.nil 1 Hs,by simp,by simp,Fr.refl _ _⟩,?_⟩
 rintro w H1 ⟨i,a1,cc,A,ar,rfl,hi,hO,hA,I9,f1⟩ _;have u7:=hB.fr f1 (by simp);refine ⟨_,_,_,_,rfl,_,_,_,u7.cell 4,fZ (fun an=>?_) fun JR=>K _ _ _ _ _ _ hO hA (by omega) I9 f1⟩;have ui:i<l6:=by omega
 have e1:IntKind.wrap .i64 ((i:Int)+1)=((i+1:Nat):Int):=by rw [ao (by omega) (by omega)];omega
 obtain ⟨q,Jf,AT,OE⟩:=(Rd.nilF hr f1).int (i:=(i:Int)) (by omega) (by omega);refine ⟨_,_,_,u7.cell 4,⟨by omega,an⟩,q,Jf,_,by rw [a0j,a0y];exact AT,uj (h.nil (fs.trans f1)) h0 (by omega) fun w hw=>⟨_,rfl,?_⟩⟩;refine kT Ty rfl (by kernel_rfl) hO rfl (by simp [dJ]) (fun c hc=>wN hc (by omega)) (by decide) fun a' c' A2 H3 g1 g2 _=>⟨_,_,_,rfl,?_⟩;rw [e1];have o3:=Up.fresh f1 g2 hA;refine ⟨⟨i+1,a',c',A2,ar++[w],rfl,by omega,by rw [bR];exact g1,o3.2,fun z hz=>?_,o3.1⟩,by simp;omega⟩;rcases a0T.1 hz with hz | hz
 ·exact I9 z hz
 ·rw [a0A.1 hz];exact hw
theorem DZ (h:Twn H0 H pb x){N:Nat} (hN:wk x N) (hl:N<=99999999999){n2 n3 n5 n7:Int}{s4:ByteArray}{a6:Option Addr}{l6 c6:Nat}{ix:List Int} (hr:Rd 1 H a6 l6 (az ix)) (SF:l6<=18000000000000)
  (K:∀ H' x',Twn H0 H' pb x'->wk x' (N+1)->Q (.bool true) H'):ag PP 42 #[QW pb,.agg #[ac n2,ac n3,.string s4,ac n5,.slice a6 l6 c6,ac n7]] Q H:=by
 have Th:=hN;obtain ⟨T5,VI⟩:=hN;apply NF;dsimp only [aL,aN,aP,bk,aC,ah,aX,ay,aK,cX,bc,ac,bf,cL,av,bm,am,aJ,bM,aO,aI];have f0:=Fr.push [] H (.cells #[ac n2,ac n3,.string s4,ac n5,.slice a6 l6 c6,ac n7] 28);have hB:=bI.new H #[ac n2,ac n3,.string s4,ac n5,.slice a6 l6 c6,ac n7] 28;refine zr h (by omega) (by omega) f0 hB (Rd.nilF hr f0) SF fun a l c A ar H1 hO hA S0 I9 f1=>?_;have u7:=hB.fr f1 (by simp);have f01:=f0.trans f1;have h1:=h.nil f01;refine ⟨_,u7.cell 1,_,u7.cell 2,_,u7.cell 3,uj h1 (by omega) (by omega) fun w hw=>⟨_,rfl,⟨⟨u7.cell 2,trivial⟩,⟨u7.cell 1,trivial⟩,trivial⟩,?_⟩⟩;have ZG:∀ y∈A,H.size<=y:=fun y hy=>a0O f0.1 (hA y hy);refine jV h1 (by omega) hO.rd S0 (h.young hO ZG) (fun z hz _=>?_) fun H' x' t' e=>⟨_,rfl,trivial,K H' x' t' (Th.more e)⟩;rcases a0E.1 hz with rfl | hz
 ·exact h.words _ hw
 ·exact h.words _ (I9 z hz)
theorem Dm (h:Twn H0 H pb x){N:Nat} (hN:wk x N) (hl:N<=99999999999){n2 n3 n5 n7:Int}{s4:ByteArray}{a6:Option Addr}{l6 c6:Nat}{ix:List Int} (hr:Rd 1 H a6 l6 (az ix)) (SF:l6<=18000000000000)
  (K:∀ H' x',Twn H0 H' pb x'->wk x' (N+1)->Q (.bool true) H'):ag PP 49 #[QW pb,.agg #[ac n2,ac n3,.string s4,ac n5,.slice a6 l6 c6,ac n7]] Q H:=by
 have Th:=hN;obtain ⟨T5,VI⟩:=hN;apply MX;dsimp only [aL,aN,aP,bk,aC,ah,ak,bP,aX,ay,aK,aF,cX,bc,ac,bf,cL,av,bm,aE,am,aJ,bM,aO,ax,bj,aI];have f0:=Fr.push [] H (.cells #[ac n2,ac n3,.string s4,ac n5,.slice a6 l6 c6,ac n7] 28);have hB:=bI.new H #[ac n2,ac n3,.string s4,ac n5,.slice a6 l6 c6,ac n7] 28;have h0:=h.nil f0;have OA:=Rd.nilF hr f0;generalize (H.push (.cells #[ac n2,ac n3,.string s4,ac n5,.slice a6 l6 c6,ac n7] 28))=Hs at f0 hB h0 OA ⊢;refine ⟨_,rfl,_,h0.blk.cell 1,_,hB.cell 5,L4 h0.r h0.all ⟨_,_,rfl,trivial,?_⟩⟩;refine dh (fun _=>K _ _ h0 ⟨T5,by omega⟩) fun ic=>?_;have D2:cK x.s.h n7=0:=by unfold cK;rw [a0b ic]
 refine ⟨_,hB.cell 3,uj h0 (by omega) (by omega) fun wr Vz=>⟨_,rfl,?_⟩⟩;refine zr h (by omega) (by omega) f0 hB OA SF fun a l c A ar H1 hO hA S0 I9 f1=>?_;have u7:=hB.fr f1 (by simp);have f01:=f0.trans f1;have h1:=h.nil f01;have hs0:=f0.1;have ZG:∀ y∈A,H.size<=y:=fun y hy=>a0O hs0 (hA y hy);have hlar:ar.length=l:=by have:=hO.len;simpa [az] using this
 refine fZ (fun hgt=>?_) fun HS=>?_
 ·obtain ⟨sb,rfl,rfl,a1P,hO'⟩:=yV hO (i:=0) (by decide) (by omega) n7;refine ⟨_,u7.cell 5,⟨a1F _,by omega⟩,_,rfl,a1P,?_⟩;have R1:=hA sb (by simp);have fz:Fr [] H (aQ H1 ⟨sb,(0:Int).toNat,none⟩ (ac n7)):=by
   have fs:Fr [sb] H1 (aQ H1 ⟨sb,(0:Int).toNat,none⟩ (ac n7)):=Fr.set (by show sb∈[sb];simp);exact ⟨a0O f01.1 fs.1,fun y hy _=>by rw [fs.2 y (a0X hy f01.1) (by simp;omega),f01.2 y hy (by simp)]⟩
  have Da:bI (aQ H1 ⟨sb,(0:Int).toNat,none⟩ (ac n7)) H.size #[ac n2,ac n3,.string s4,ac n5,.slice a6 l6 c6,ac n7]:=u7.set_ne (by have:=hB.lt;show H.size≠sb;omega) _;refine ⟨_,Da.cell 1,_,Da.cell 2,?_⟩;refine jV (h.nil fz) (by omega) hO'.rd S0 (h.young hO' ZG) (fun z hz OH=>?_) fun H' x' t' e=>⟨_,rfl,K H' x' t' (Th.more e)⟩;rcases a0E.1 hz with rfl | hz
  ·exact h.words _ Vz
  ·rcases a3C hz with hz | rfl
   ·exact h.words _ (I9 z hz)
   ·exact absurd D2 OH
 ·refine ⟨_,u7.cell 5,_,u7.cell 1,_,u7.cell 2,?_⟩;refine jV h1 (by omega) hO.rd S0 (h.young hO ZG) (fun z hz OH=>?_) fun H' x' t' e=>⟨_,rfl,K H' x' t' (Th.more e)⟩;rcases a0E.1 hz with rfl | hz
  ·exact absurd D2 OH
  ·exact h.words _ (I9 z hz)
end
section
variable {H0 H H1:au}{pb:Nat}{x:PSt}{Q:QT}
theorem qI {v:KV}{Gw:Int->Prop} (n:Int):WK v Gw (2*n+1):=WK.small (by have:=bE (2*n+1);omega)
theorem EZ (h:Twn H0 H pb x){N:Nat} (hN:wk x N) (hl:N<=99999999000){z:ByteArray} (K:∀ H' x',Twn H0 H' pb x'->wk x' (N+201)->Q (.bool true) H'):ag PP 48 #[QW pb,.string z] Q H:=by
 have Th:=hN;obtain ⟨T5,VI⟩:=hN;have p10:∀ {y:PSt},yS y.v->WK y.v y.Gw 40:=fun hk=>WK.cls (o:=10) hk.2.1.pl.2.2.2.2.2.2.1;apply MS;dsimp only [aL,aP,bk,aC,ah,bP,aX,ay,aK,bc,ac,bf,Lw,av,bm,aE,am,aJ,aO,ax,jb,aI];refine fZ (fun _=>K _ _ h ⟨T5,by omega⟩) fun hz=>?_;refine ⟨_,rfl,_,_,_,h.blk.cell 2,ce ⟨by decide,by decide⟩ ⟨_,rfl,dW ⟨by omega,by omega⟩ ⟨_,rfl,?_⟩⟩⟩;have f1:=Fr.push [] H (.cells #[ac (2*(z.size:Int)+1)] 26);have hO:bZ 1 (H.push (.cells #[ac (2*(z.size:Int)+1)] 26)) (some ⟨H.size,0,none⟩) 1 1 (az [2*(z.size:Int)+1]) [H.size]:=⟨by simp [az],a0U _,.inr ⟨_,_,rfl,rfl,bI.new _ _ _,by simp,by simp [az]⟩⟩;have h1:=h.nil f1;refine jV h1 (by omega) hO.rd (by decide) (h.young hO (by simp)) (fun w hw _=>?_) fun H3 x3 t3 e3=>⟨_,rfl,?_⟩
 ·simp only [a0E,a1l,a2h] at hw;rcases hw with rfl | rfl
  ·exact p10 h.kv
  ·exact qI _
 refine ⟨fun w H'=>∃(i:Nat) (y:PSt),w=[.bool true,ac i]∧i<=z.size∧Twn H0 H' pb y∧wk y (N+1+i),fun w _=>match w with
  | [_,.int _ i]=>((z.size:Int)-i).toNat
  | _=>0,⟨0,x3,rfl,a07 _,t3,Th.more e3⟩,?_⟩
 rintro w H4 ⟨i,y,rfl,hi,ty,hc⟩ _;have Vs:=hc;obtain ⟨c1,c2⟩:=hc;have lwy:=ty.lw;have fin:Q (.bool true) H4:=K _ _ ty ⟨c1,by omega⟩;refine ⟨_,_,rfl,fZ (fun an=>?_) fun _=>fin⟩;rw [a0P];refine ⟨_,rfl,_,_,_,ty.blk.cell 2,fZ (fun hgt=>?_) fun _=>fin⟩;have ui:i<z.size:=by omega
 have hu:=(z[i]).toNat_lt;have e1:IntKind.wrap .i64 ((i:Int)+1)=((i+1:Nat):Int):=by rw [ao (by omega) (by omega)];omega
 have e2:IntKind.wrap .i64 (((z[i]).toNat:Nat):Int)=((z[i]).toNat:Int):=ao (by omega) (by omega);obtain ⟨q,Jf,AT,OE⟩:=ty.ow.rd.int (i:=(x.lw:Int)) (by omega) (by omega);have hmem:y.ws.getD (x.lw:Int).toNat 0∈y.ws:=by
  rw [a1f,a0Q OE];exact a04 OE
 generalize y.ws.getD (x.lw:Int).toNat 0=wr at AT hmem;refine ⟨_,rfl,_,_,_,ty.blk.cell 2,⟨by omega,hgt⟩,q,Jf,wr,by rw [a0y];exact AT,z[i],⟨by omega,by rw [a0j];simp [ui]⟩,?_⟩;rw [e1];refine dW ⟨by omega,by omega⟩ ⟨_,rfl,⟨⟨by rw [a0y];exact AT,trivial⟩,⟨ty.blk.cell 2,trivial⟩,trivial⟩,?_⟩;rw [e2];refine dW ⟨by omega,by omega⟩ ⟨_,rfl,⟨⟨by rw [a0y];exact AT,trivial⟩,⟨ty.blk.cell 2,trivial⟩,trivial⟩,?_⟩;have f5:=Fr.push [] H4 (.cells #[ac (2*((i+1:Nat):Int)+1),ac (2*((z[i]).toNat:Int)+1)] 26);have XI:bZ 1 (H4.push (.cells #[ac (2*((i+1:Nat):Int)+1),ac (2*((z[i]).toNat:Int)+1)] 26)) (some ⟨H4.size,0,none⟩) 2 2 (az [2*((i+1:Nat):Int)+1,2*((z[i]).toNat:Int)+1]) [H4.size]:=⟨by simp [az],a0U _,.inr ⟨_,_,rfl,rfl,bI.new _ _ _,by simp,by simp [az]⟩⟩;have t5:=ty.nil f5;refine ⟨⟨⟨by rw [a0y];exact kY f5 AT,trivial⟩,⟨t5.blk.cell 2,trivial⟩,trivial⟩,?_⟩;refine jV t5 (by omega) XI.rd (by decide) (ty.young XI (by simp)) (fun w hw _=>?_) fun H6 x6 t6 e6=>⟨_,rfl,trivial,⟨i+1,x6,rfl,by omega,t6,Vs.more e6⟩,by simp;omega⟩;simp only [a0E,a1l,a2h] at hw;rcases hw with rfl | rfl | rfl
 ·exact ty.words _ hmem
 ·exact qI _
 ·exact qI _
theorem Ax (h:Twn H0 H pb x){w:Int} (K:∀ b:Bool,(b=true->WK x.v x.Gw w)->Q (.bool b) H):ag PP 43 #[QW pb,ac w] Q H:=by
 have hcases:=bE w;apply Ma;dsimp only [aP,aC,ah,ak,aX,aF,ac,aE,am,aI];refine ⟨_,rfl,_,h.blk.cell 1,L4 h.r h.all ⟨_,_,rfl,?_⟩⟩;rw [bn,ae];refine aD (fun _=>K false (by simp)) fun h0=>?_;have hk:aU w=1∨aU w=2∨aU w=3:=by
  have hk0:aU w≠0:=fun e=>h0 (by unfold mQ;rw [a0a (by omega),a0a (by omega),a0a (by omega)];decide);omega
 rcases hk with hk | hk | hk
 ·have e:mQ x.s.h w=(8,0):=by unfold mQ;rw [a0b hk]
  rw [e];exact dh (fun _=>K true fun _=>WK.small (by omega)) fun e=>absurd rfl e
 ·have e:mQ x.s.h w=(9,0):=by unfold mQ;rw [a0a (by omega),a0b hk]
  rw [e];refine dh (fun e=>by cases e) fun _=>dh (fun _=>?_) fun e=>absurd rfl e;obtain ⟨tb,F2,hc,hT,_⟩:=h.r.tb;exact ⟨_,rfl,_,h.blk.cell 1,_,rfl,_,hc,vn hT ⟨_,rfl,K _ fun _=>WK.small (by omega)⟩⟩
 ·have hw:dL w:=by unfold dL;omega
  obtain ⟨ew,o1,o2⟩:=ef hk;have ic:(mQ x.s.h w).1≠8∧(mQ x.s.h w).1≠9:=by
   unfold mQ at h0 ⊢;rw [a0a (by omega),a0a (by omega),a0b hk] at h0 ⊢;unfold RH.clsAt at h0 ⊢;cases ho:aT x.s.h.objs (w / 4) with
   | none=>rw [ho] at h0;exact absurd (show (20:Int)≠0 by decide) h0
   | some o =>
    have hm:=(aR ho).1;have hgc:=h.all.ks.gc o hm;obtain ⟨n1,n2⟩:=h.uw.ni o hm;have hr:=ef hgc;simp only [if_true];unfold d7;rw [a0b hgc];omega
  refine dh (fun e=>absurd e ic.1) fun _=>dh (fun e=>absurd e ic.2) fun _=>?_;refine cR (iX hw) ⟨_,rfl,K _ fun hb=>?_⟩;have HS:gg w<=18:=of_decide_eq_true hb;rw [jh hw] at HS;unfold d7 at HS;rw [a0b hk] at HS;intro _
  have:w / 4=1∨w / 4=2∨w / 4=3∨w / 4=18∨(4<=w / 4∧w / 4<=17):=by omega
  rcases this with e | e | e | e | ⟨e,e'⟩
  ·exact .inl e
  ·exact .inr (.inl e)
  ·exact .inr (.inr (.inl e))
  ·exact .inr (.inr (.inr (.inl e)))
  ·obtain ⟨i,hi⟩:=h.kv.2.2 (w / 4) e e';obtain ⟨hi',e9⟩:=dS hi;exact .inr (.inr (.inr (.inr (.inl ⟨_,a04 hi',e9⟩))))
theorem MJ {s:SP}{t:TB}{v:KV} (hv:KAllW s t v) (k:Int):KAllW { s with h:=(s.h.marks k).2 } t v:=⟨hv.ks.marks k,hv.names,hv.top⟩
theorem vW (r:RH) (k i:Int):ob (r.marks k).2 i=ob r i:=by
 unfold RH.marks;split <;> rfl
theorem NU {s:SP}{t:TB}{v:KV} (hv:KAllW s t v) (n:Int):KAllW (s.drop n).2 t v:=by
 unfold SP.drop;split
 ·exact hv
 ·have R5:=hv.ks;have htop:=hv.top;have hlen:(s.stack.take (s.stack.length-n.toNat)).length<=65536:=by rw [a1q];omega
  exact ⟨⟨{ R5.wf with many:=hlen,words:=fun w hw=>R5.wf.words w (a2W hw) },R5.gc,R5.op,R5.king,R5.view,R5.sep,R5.shape⟩,hv.names,hlen⟩
theorem Kl (h:Twn H0 H pb x){N:Nat} (hN:wk x N) (hl:N<=99999999000){n2 n3 n5 n7:Int}{s4:ByteArray}{a6:Option Addr}{l6 c6:Nat}{ix:List Int} (hr:Rd 1 H a6 l6 (az ix)) (SF:l6<=18000000000000)
  (K:∀ H' x',Twn H0 H' pb x'->wk x' (N+201)->Q (.bool true) H'):ag PP 19 #[QW pb,.agg #[ac n2,ac n3,.string s4,ac n5,.slice a6 l6 c6,ac n7]] Q H:=by
 have Th:=hN;obtain ⟨T5,VI⟩:=hN;apply Md;dsimp only [aL,aN,aP,bk,aC,du,ah,fe,bP,ay,aK,aF,cX,aZ,ac,av,aE,am,aJ,aO,ax,bj,aI];have f0:=Fr.push [] H (.cells #[ac n2,ac n3,.string s4,ac n5,.slice a6 l6 c6,ac n7] 28);have hB:=bI.new H #[ac n2,ac n3,.string s4,ac n5,.slice a6 l6 c6,ac n7] 28;have h0:=h.nil f0;have OA:=Rd.nilF hr f0;have lp:=h.p.lt;have lq:=h.r.lt;have lb:=h.blk.lt;generalize (H.push (.cells #[ac n2,ac n3,.string s4,ac n5,.slice a6 l6 c6,ac n7] 28))=Hs at f0 hB h0 OA ⊢;have K1:∀ H' x',Twn H0 H' pb x'->wk x' (N+1)->Q (.bool true) H':=fun H' x' t ⟨c1,c2⟩=>K H' x' t ⟨c1,by omega⟩;have nap:H.size∉x.Fp:=fun hm=>a2B _ (lp _ hm);have naq:H.size∉x.Fq:=fun hm=>a2B _ (lq _ hm);refine ⟨_,hB.cell 0,dh (fun _=>?_) fun _=>dh (fun _=>?_) fun _=>dh (fun _=>?_) fun _=>dh (fun _=>?_) fun _=>dh (fun _=>?_) fun _=>dh (fun _=>?_) fun _=>K _ _ h0 ⟨T5,by omega⟩⟩
 ·exact ⟨_,hB.cell 0,_,hB.cell 1,_,hB.cell 2,_,hB.cell 3,_,_,_,hB.cell 4,_,hB.cell 5,DZ h0 Th (by omega) OA SF fun H' x' t' c'=>⟨_,rfl,K1 H' x' t' c'⟩⟩
 ·refine ⟨_,hB.cell 5,Ax h0 fun b hb=>⟨_,rfl,?_⟩⟩;cases b with
  | false=>rw [a0f];exact K _ _ h0 ⟨T5,by omega⟩
  | true =>
   rw [a0P];exact ⟨_,hB.cell 5,rl h0 (by omega) (hb rfl) fun H' x' t' e _ _ _=>⟨rfl,K1 H' x' t' (Th.more (.inr ⟨_,e⟩))⟩⟩
 ·
  obtain ⟨sb,hb,Fh,hcs,V4,_⟩:=h0.r.hp;obtain ⟨sb',F1,Ti,S2,Uu,_⟩:=h0.r.sp;have R1:sb'=sb:=by rw [hcs] at Ti;simpa using Ti.symm
  have hsq:sb∈x.Fq:=by
   obtain ⟨_,_,_,_,F3,F4,_,_,_,_,eF,_⟩:=S2;rw [←R1];exact Uu _ (by rw [eF];simp)
  have hbq:=h0.r.bmem;have nsp:sb∉x.Fp:=fun hm=>h0.dpq _ hm hsq;have nbp:x.br∉x.Fp:=fun hm=>h0.dpq _ hm hbq;refine ⟨_,rfl,_,h0.blk.cell 0,_,hB.cell 3,dX h0.p fun sbp Fsp XJ XK R6 s6 JK=>⟨_,rfl,⟨⟨hB.cell 3,trivial⟩,trivial⟩,eQ XK fun Wi Fhp XL JJ Oy=>⟨_,rfl,⟨⟨hB.cell 3,trivial⟩,trivial⟩,Cx XL fun H1 If bw=>?_⟩⟩⟩;have fP:Fr x.Fp Hs H1:=(bw.mono JJ).mono R6;have JT:Up x.Fp Hs x.Fp H1:=⟨fP,fun _ h=>.inl h⟩;have u7:=hB.fr fP nap;have cj:=h0.blk.fr fP h0.np;have c1:aq H1 ⟨x.br,0,none⟩=some (QW sb):=by rw [cM fP nbp (h0.r.lt _ hbq)];exact hcs
  have c2:aq H1 ⟨sb,0,none⟩=some (QW hb):=by rw [cM fP nsp (h0.r.lt _ hsq)];exact V4
  have Um:=JK H1 _ (Oy H1 _ If bw) (bw.mono JJ);obtain ⟨sb1,a1Q,Fh1,XM,XN,a1R,_,_,XO⟩:=(h0.r.fr fP h0.dpq.symm).hp;have e1:sb1=sb:=by rw [c1] at XM;simpa using XM.symm
  subst e1;have e2:a1Q=hb:=by rw [c2] at XN;simpa using XN.symm
  subst e2;refine ⟨_,rfl,trivial,_,rfl,_,cj.cell 1,_,rfl,_,c1,_,rfl,_,c2,_,u7.cell 3,vi a1R fun H2 Jn fa=>⟨_,rfl,trivial,jC ⟨_,rfl,?_⟩⟩⟩;rw [bq,a00 rfl];obtain ⟨Fq',JP,Jd⟩:=XO H2 Fh1 _ Jn ⟨fa,fun _ h=>.inl h⟩;exact K _ _ (h0.kern Um JT JP Jd (MJ h0.all n5) ⟨fun p hp=>by rw [vW];exact h0.uw.base p hp,h0.uw.gm,vB h0.uw.ni n5,fun k hk c f l hx=>h0.uw.own k hk c f l (by rw [←vW x.s.h n5];exact hx)⟩ h0.kv h0.words) ⟨T5,a0O VI (a3V _ _)⟩
 ·
  have lw0:=h0.lw;have ewl:IntKind.wrap .i64 ((x.lw:Int)-10)=(x.lw:Int)-10:=ao (by omega) (by omega);refine ⟨_,rfl,_,_,_,h0.blk.cell 2,?_⟩;rw [ewl];refine fZ (fun hgt=>?_) fun _=>K _ _ h0 ⟨T5,by omega⟩;refine ⟨_,rfl,_,h0.blk.cell 0,dX h0.p fun sbp Fsp XJ XK R6 s6 JK=>⟨_,rfl,qk XK ⟨by omega,by omega⟩ fun H1 Om bw=>⟨_,rfl,?_⟩⟩⟩;have fP:Fr x.Fp Hs H1:=bw.mono R6;have JT:Up x.Fp Hs x.Fp H1:=⟨fP,fun _ h=>.inl h⟩;have Um:=JK H1 _ Om bw;have cj:=h0.blk.fr fP h0.np;obtain ⟨sb,F1,hc,hS,_,_,VH⟩:=(h0.r.fr fP h0.dpq.symm).sp;refine ⟨_,rfl,_,cj.cell 1,_,rfl,_,hc,uS hS fun H2 F2 J2 Jd=>⟨_,rfl,?_⟩⟩;obtain ⟨Fq',JP,Su⟩:=VH H2 F2 _ J2 Jd;have eh:∀ n,(x.s.drop n).2.h=x.s.h:=fun n=>xf _ _;have t2:=h0.kern Um JT JP Su (NU h0.all _) (h0.uw.of_h (eh _)) h0.kv h0.words;have R9:=h0.ow.2.1;have qz:bZ 1 H2 x.aw 10 x.cw (az (x.ws.take 10)) x.Ga:=by
   refine wo (m:=x.lw-10) (ys:=az (x.ws.drop 10)) ?_ (by simp [az];omega);rw [show 10+(x.lw-10)=x.lw by omega]
   have:az (x.ws.take 10)++az (x.ws.drop 10)=az x.ws:=by
    unfold az;rw [←a2m,List.take_append_drop]
   rw [this];exact t2.ow
  obtain ⟨g1,g2⟩:=t2.wset (ws':=x.ws.take 10) qz (Up.refl _ _) fun w hw=>h0.words w (a2W hw);refine ⟨_,rfl,_,_,_,t2.blk.cell 2,⟨by decide,by show (10:Int)<=(x.cw:Int);omega⟩,_,rfl,g1,jC ⟨_,rfl,?_⟩⟩;rw [bq,a00 rfl];refine K _ _ g2 ⟨?_,?_⟩
  ·simp only [a1q];omega
  ·simp only [a1q];omega
 ·exact ⟨_,hB.cell 2,EZ h0 Th hl fun H' x' t' c'=>⟨_,rfl,K H' x' t' c'⟩⟩
 ·exact ⟨_,hB.cell 0,_,hB.cell 1,_,hB.cell 2,_,hB.cell 3,_,_,_,hB.cell 4,_,hB.cell 5,Dm h0 Th (by omega) OA SF fun H' x' t' c'=>⟨_,rfl,K1 H' x' t' c'⟩⟩
end
section
variable {H0 H:au}{pb:Nat}{x:PSt}{Q:QT}
theorem BK {b:Nat}{F:aS}{s:SP} (hS:nW H b F s) (h:∀ a c H',Rd 1 H' a s.stack.length (az s.stack)->Fr [] H H'->Q (.slice a s.stack.length c) H'):ag PP 64 #[QW b] Q H:=by
 have i7:bd PP 30=some (1,8,some (ac 0)):=by kernel_rfl
 obtain ⟨hb,a,l,c,F1,F2,po,b5,b6,b7,rfl,h1,h2,h3,hB,hR,hO,hw,ho⟩:=hS;have hl:l=s.stack.length:=by have:=hO.len;simpa [az] using this.symm
 have hm:=hw.many;subst hl;apply ND;dsimp only [ah,aK,av,aE,cD,bM];rw [a0l,a0f];refine ⟨_,rfl,_,_,_,hB.cell 2,dz i7 rfl (by kernel_rfl) (bZ.nil 1 H) hO.rd oM (by omega) (by decide) (by decide) fun a' c' F' H' g1 g2 _=>⟨_,_,_,rfl,?_⟩⟩;rw [a0K] at g1 ⊢;exact h _ _ _ g1.rd g2.1
theorem zU {r:RH} (hw:WFH r) (ws:List Int):(r.reach ws).length<=70000:=by
 have h1:=r.upto_len (r.oops+1).toNat;have h2:r.all.length<=(r.oops+1).toNat:=h1;have h3:=hw.o1
 have:(r.reach ws).length<=r.all.length:=by
  unfold RH.reach;exact a2w _ _
 omega
theorem vz (h:Twn H0 H pb x) (K:∀ H',Fr [] H H'->Q (.bool true) H'):ag PP 20 #[QW pb] Q H:=by
 have pe:=h.all.ks.wf;obtain ⟨sb,hb,Fh,hcs,V4,ZH,_⟩:=h.r.hp;obtain ⟨sb',Fs,Ti,hSr,_⟩:=h.r.sp;have R1:sb'=sb:=by rw [hcs] at Ti;simpa using Ti.symm
 subst R1;obtain ⟨tb,Ft,V5,hTr,_⟩:=h.r.tb;apply Mj;dsimp only [aP,bk,aC,cq,du,ah,bW,ak,dM,aX,ay,aF,bc,ac,bf,bX,av,bm,aE,am,ax,aI];refine ⟨_,rfl,_,h.blk.cell 1,_,rfl,_,hcs,_,rfl,_,V4,_,rfl,_,h.blk.cell 0,dX h.p fun sbp Fsp XJ XK R6 s6 JK=>⟨_,rfl,eQ XK fun Wi Fhp XL JJ Oy=>⟨_,rfl,?_⟩⟩⟩;refine ⟨_,rfl,_,h.blk.cell 1,_,rfl,_,hcs,oC hSr fun a3 l3 c3 G3 H3 Ji f3 _=>⟨_,_,_,rfl,?_⟩⟩;have Tk:l3=x.s.roots.length:=by have:=Ji.len;simpa [az] using this.symm
 have OZ:x.s.roots.length<=65537:=by have:=pe.many;unfold SP.roots;simp only [a1b];omega
 refine rt (ZH.fr f3 (bU.nil_right _)) Ji.rd (by omega) fun a4 l4 c4 G4 H4 Ok f4 _=>⟨_,_,_,_,rfl,?_⟩;have f04:=f3.trans f4;have hl4:l4=(x.s.h.reach x.s.roots).length:=by have:=Ok.len;simpa [az] using this.symm
 have X9:=zU pe.h x.s.roots;refine ⟨fun w H'=>∃ i:Nat,w=[ac i]∧i<=l4∧Fr [] H4 H',fun w _=>match w with
  | [.int _ i]=>((l4:Int)-i).toNat
  | _=>0,⟨0,rfl,a07 _,Fr.refl _ _⟩,?_⟩
 rintro w H5 ⟨i,rfl,hi,f45⟩ _;have f05:=f04.trans f45;have h5:=h.nil f05;have XP:=ZH.fr f05 (bU.nil_right _);have XQ:=XL.fr f05 (bU.nil_right _) (by simp);refine ⟨_,rfl,fZ (fun an=>?_) fun JR=>?_⟩
 ·have ui:i<(x.s.h.reach x.s.roots).length:=by omega
  have e1:IntKind.wrap .i64 ((i:Int)+1)=((i+1:Nat):Int):=by rw [ao (by omega) (by omega)];omega
  obtain ⟨q,Jf,AT,OE⟩:=(Ok.fr f45 (by simp)).rd.int (i:=(i:Int)) (by omega) (by omega);have hmem:(x.s.h.reach x.s.roots).getD (i:Int).toNat 0∈x.s.h.reach x.s.roots:=by
   rw [a1f,a0Q OE];exact a04 OE
  generalize (x.s.h.reach x.s.roots).getD (i:Int).toNat 0=k at AT hmem;have hthere:=((RH.mem_reach pe.h).1 hmem).there;obtain ⟨o,ho⟩:=Option.ne_none_iff_exists'.1 hthere;have ec:x.s.h.clsAt k=(o.cls,0):=by unfold RH.clsAt;rw [ho]
  have ez:x.s.h.size k=((o.slots.length:Int),o.fmt,0):=by unfold RH.size;rw [ho]
  have hsl:=(pe.h.objs.good o (aR ho).1).many;have Tj:aq H5 (q.add ((i:Int).toNat*1))=some (ac k):=by rw [a0y];exact AT
  refine ⟨⟨by omega,an⟩,q,Jf,k,Tj,lF XP ?_⟩;rw [ec];refine ⟨_,_,rfl,⟨by omega,an⟩,q,Jf,k,Tj,lX XP ?_⟩;rw [ez];refine ⟨_,_,_,rfl,⟨by omega,an⟩,q,Jf,k,Tj,kU XQ ?_⟩;rw [ec];refine ⟨_,_,rfl,⟨by omega,an⟩,q,Jf,k,Tj,pN XQ ?_⟩;rw [ez];refine ⟨_,_,_,rfl,jC ⟨_,rfl,?_⟩⟩;rw [bn,ae,a0a (fun hn=>hn rfl)];refine jC ⟨_,rfl,?_⟩;rw [bn,ae,a0a (fun hn=>hn rfl),bn,ae,a0a (fun hn=>hn rfl),bn,ae,a0a (fun hn=>hn rfl),bn,ae,a0a (fun hn=>hn rfl)];refine ⟨fun w H'=>∃ j:Nat,w=[ac j]∧j<=o.slots.length∧Fr [] H5 H',fun w _=>match w with
   | [.int _ j]=>((o.slots.length:Int)-j).toNat
   | _=>0,⟨0,rfl,a07 _,Fr.refl _ _⟩,?_⟩
  rintro w H6 ⟨j,rfl,hj,f56⟩ _;have f06:=f05.trans f56;have a1T:=ZH.fr f06 (bU.nil_right _);have a1U:=XL.fr f06 (bU.nil_right _) (by simp);have ZI:=kY f56 Tj;refine ⟨_,rfl,fZ (fun hltj=>?_) fun hgej=>?_⟩
  ·have OR:j<o.slots.length:=by omega
   have e2:IntKind.wrap .i64 ((j:Int)+1)=((j+1:Nat):Int):=by rw [ao (by omega) (by omega)];omega
   have ea:x.s.h.at k j=(o.slots.getD j 0,0):=by
    unfold RH.at;rw [ho];simp only;rw [a0a (by omega),a0j]
   refine ⟨⟨by omega,an⟩,q,Jf,k,ZI,yn a1T ?_⟩;rw [ea];refine ⟨_,_,rfl,⟨by omega,an⟩,q,Jf,k,ZI,uR a1U ?_⟩;rw [ea];refine ⟨_,_,rfl,?_⟩;rw [bn,ae,a0a (fun hn=>hn rfl)];refine jC ⟨_,rfl,?_⟩;rw [bn,ae,a0a (fun hn=>hn rfl),e2];exact ⟨⟨j+1,rfl,by omega,f56⟩,by simp;omega⟩
  ·rw [e1];exact ⟨⟨i+1,rfl,by omega,f45.trans f56⟩,by simp;omega⟩
 ·refine ⟨_,rfl,_,h5.blk.cell 0,dX h5.p fun sb2 Fs2 _ a1V _ _ _=>⟨_,rfl,CU a1V fun H6 f56=>⟨_,_,rfl,?_⟩⟩⟩;have f06:=f05.trans f56;have h6:=h.nil f06;refine ⟨_,rfl,_,h6.blk.cell 1,_,rfl,_,kY f06 hcs,BI (hSr.fr f06 (bU.nil_right _)) fun H7 f67=>⟨_,_,rfl,?_⟩⟩;have f07:=f06.trans f67;rw [bq,ae,a0b rfl,bq,ae,a0b rfl];refine ss (XL.fr f07 (bU.nil_right _) (by simp)) ⟨_,rfl,trivial,sF (ZH.fr f07 (bU.nil_right _)) ⟨_,rfl,trivial,?_⟩⟩;rw [bq,ae,a0b rfl];have h7:=h.nil f07;refine ⟨_,rfl,_,h7.blk.cell 0,_,rfl,_,h7.blk.cell 1,_,rfl,_,kY f07 hcs,dX h7.p fun sb3 Fs3 _ a1W _ _ _=>⟨_,rfl,⟨⟨kY f07 hcs,trivial⟩,⟨h7.blk.cell 1,trivial⟩,trivial⟩,?_⟩⟩;refine rH a1W fun a8 c8 H8 Uv f78=>⟨_,_,_,rfl,?_⟩;have f08:=f07.trans f78;have h8:=h.nil f08;refine ⟨⟨⟨kY f08 hcs,trivial⟩,⟨h8.blk.cell 1,trivial⟩,trivial⟩,BK (hSr.fr f08 (bU.nil_right _)) fun a9 c9 H9 hr9 f89=>⟨_,_,_,rfl,trivial,?_⟩⟩;have Jp:=pe.many;refine o7 (Rd.nilF Uv f89) hr9 (by omega) ⟨_,rfl,trivial,?_⟩;rw [a00 rfl,a0P];have f09:=f08.trans f89;have h9:=h.nil f09;refine ⟨_,rfl,_,h9.blk.cell 0,_,rfl,_,h9.blk.cell 1,_,rfl,_,kY f09 V5,qi h9.p fun tb2 Ft2 _ hTp=>⟨_,rfl,⟨⟨kY f09 V5,trivial⟩,⟨h9.blk.cell 1,trivial⟩,trivial⟩,?_⟩⟩;refine Eh hTp fun a10 l10 c10 G10 H10 XR f910 _=>⟨_,_,_,rfl,?_⟩;have f010:=f09.trans f910;have qz:=h.nil f010;refine ⟨⟨⟨kY f010 V5,trivial⟩,⟨qz.blk.cell 1,trivial⟩,trivial⟩,M8 (hTr.fr f010 (bU.nil_right _)) fun a11 l11 c11 G11 H11 a1X f1011 _=>⟨_,_,_,rfl,trivial,?_⟩⟩;have hl10:l10=x.t.texts.length:=by have:=XR.len;simpa [bC] using this.symm
  have w1:=h.all.names.wf.len;have w2:=h.all.names.wf.m1;refine vy (Rd.nilF XR.rd f1011) a1X.rd (by omega) ⟨_,rfl,trivial,?_⟩;rw [a00 rfl];exact K _ (f010.trans f1011)
end
end
section
variable {H:au}{b:Nat}{F:aS}{s:SP}{t:TB}{v:KV}{Q:QT}
theorem Qk {a a4:Option Addr}{l l4:Nat}{xs own:List ByteArray}{x:ByteArray}{n k:Nat} (hk:Rd 1 H a l (bC xs)) (h4:Rd 1 H a4 l4 (bC own)) (hn:own[n]?=some x) (Od:k<=l) (I6:l<=1000000000000000) (hl4:l4=own.length)
  {bad good:au->Prop} (gw:x∈xs.take k->bad H) (XS:x∉xs.take k->good H) :
  ∃(I:List Value->au->Prop) (μ:List Value->au->Nat),I [ac 0] H∧∀ w H1,I w H1->∀ _g:Nat->Value,∃ m:Int,w=[ac m]∧cond (decide (m<(k:Int))) (((0:Int)<=m∧m<(l:Int))∧∃ q,a=some q∧∃ s:ByteArray,aq H1 (q.add (Int.toNat m*1))=some (.string s)∧((0:Int)<=(n:Int)∧(n:Int)<(l4:Int))∧∃ q4,a4=some q4∧∃ s4:ByteArray,aq H1 (q4.add (Int.toNat (n:Int)*1))=some (.string s4)∧cond (bO s s4) (bad H1) (I [ac (IntKind.wrap .i64 (m+1))] H1∧μ [ac (IntKind.wrap .i64 (m+1))] H1<μ w H1)) (good H1):=by
 have hl:l=xs.length:=by have:=hk.1;simpa [bC] using this.symm
 have X6:n<own.length:=by
  rcases a2t n own.length with h1 | h1
  ·exact h1
  ·rw [a2I h1] at hn;cases hn
 refine ⟨fun w H'=>H'=H∧∃ i:Nat,w=[ac i]∧i<=k∧∀ j (hj:j<xs.length),j<i->xs[j]≠x,fun w _=>match w with
  | [.int _ i]=>(k-i).toNat
  | _=>0,⟨rfl,0,rfl,a07 _,fun j _ hj=>by omega⟩,?_⟩
 rintro w H1 ⟨rfl,i,rfl,hi,b8⟩ _;refine ⟨_,rfl,?_⟩;rw [ae];refine aD (fun an=>?_) fun an=>?_
 ·obtain ⟨p,be,rfl,aj⟩:=hk.str (i:=(i:Int)) (by omega) (by omega);simp only [a0j] at aj be;obtain ⟨p4,a1Y,rfl,RR⟩:=h4.str (i:=(n:Int)) (by omega) (by omega);simp only [a0j] at RR a1Y;have ex:own[n]=x:=by rw [a0Q X6] at hn;exact Option.some.inj hn
  rw [ex] at RR;have e:IntKind.wrap .i64 ((i:Int)+1)=((i+1:Nat):Int):=by rw [ao (by omega) (by omega)];omega
  refine ⟨⟨by omega,by omega⟩,_,rfl,_,by rw [a0j,a0y];exact aj,⟨by omega,by omega⟩,_,rfl,_,by rw [a0j,a0y];exact RR,?_⟩;rw [cV,ae];refine aD (fun he=>gw ?_) fun he=>?_
  ·rw [←he];exact List.mem_take_iff_getElem.2 ⟨i,by omega,rfl⟩
  ·rw [e];refine ⟨⟨rfl,i+1,rfl,by omega,fun j hj JW=>?_⟩,by simp;omega⟩;rcases a2t j i with h5 | h5
   ·exact b8 j hj h5
   ·have:j=i:=by omega
    subst this;exact he
 ·refine XS fun hm=>?_;obtain ⟨j,hj,he⟩:=List.mem_take_iff_getElem.1 hm;exact b8 j (by omega) (by omega) he
theorem AI (hK:RK H b F s t) (hv:KAllW s t v){name sup:ByteArray}{a:Option Addr}{l c:Nat}{own:List ByteArray} (hk:Rd 1 H a l (bC own)) (I6:l<=1000000000000000)
  (h:∀ H',Fr [] H H'->Q (.tuple #[ac (lD v t name sup own).1,ac (lD v t name sup own).2]) H'):ag PP 100 #[QW b,.string name,.string sup,.slice a l c] Q H:=by
 have CO:=hv.ks.shape.many1;have hl:l=own.length:=by have:=hk.1;simpa [bC] using this.symm
 apply Df;dsimp only [aA,bk,aC,cq,ah,ak,dM,bP,aX,cX,bc,ac,bf,mS,bX,bm,am,aO,ax,aI];unfold lD at h;refine wu ⟨_,rfl,?_⟩;rw [←decide_not,ae];refine aD (fun h1=>?_) fun h1=>?_
 ·rw [a0b h1] at h;exact h H (Fr.refl _ _)
 rw [a0a h1] at h;refine Lk hK hv fun H2 fa=>⟨_,rfl,?_⟩;rw [ae];refine aD (fun h2=>?_) fun h2=>?_
 ·rw [a0b h2] at h;exact h H2 fa
 rw [a0a h2] at h;refine Bk (hK.nil fa) hv fun H3 l7=>⟨_,_,rfl,?_⟩;have J3:=fa.trans l7;rw [bn,ae];refine aD (fun h3=>?_) fun h3=>?_
 ·rw [a0b h3] at h;have e130:(fy v t sup).2=130:=by
   rcases iz v t sup with ⟨e,_⟩ | ⟨j,hj,e,_⟩
   ·rw [e]
   ·rw [e] at h3;simp at h3
  rw [e130] at h;exact h H3 J3
 rw [a0a h3] at h;rcases iz v t sup with ⟨e,_⟩ | ⟨j,hj,e,_⟩
 ·rw [e] at h3;simp at h3
 have Jz:=kr hv.ks j hj;rw [e] at h ⊢;have JG:=hv.ks.idx hj;simp only [JG] at h;refine pW (hK.nil J3) hv.ks fun H4 uH=>⟨_,rfl,?_⟩;have Sm:=J3.trans uH;have epn:jD v (v.cls[j]).oop=(j:Int)+1:=by unfold jD;rw [JG]
 rw [epn];refine ⟨fun w H'=>w=[]∧H'=H4∧¬ (1<=j∧j<14),?_,?_⟩
 ·rw [ae];refine aD (fun h4=>?_) fun h4=>⟨rfl,rfl,by omega⟩;rw [ae];refine aD (fun h5=>?_) fun h5=>⟨rfl,rfl,by omega⟩;rw [a0b (by omega)] at h;exact h H4 Sm
 rintro w H5 ⟨rfl,rfl,h4⟩ _;rw [a0a h4] at h;refine ⟨rfl,uP (hK.nil Sm) hv (fun j' OG a6 l6 c6 G H6 R4 Jo hG=>?_) fun OG=>by rw [JG] at OG;cases OG⟩;rw [JG] at OG;cases OG;refine ⟨_,_,_,_,rfl,?_⟩;have Tw:=Sm.trans Jo;have SF:l6=(ch v j).length:=by have:=R4.len;simpa [bC] using this.symm
 have ZJ:Rd 1 H6 a l (bC own):=hk.fr' Tw (by simp);refine ⟨fun w H'=>H'=H6∧∃ i:Nat,w=[ac i]∧i<=l∧qS ((ch v j).map (tx t)) (own.take i) (own.drop i)=qS ((ch v j).map (tx t)) [] own,fun w _=>match w with
  | [.int _ i]=>(l-i).toNat
  | _=>0,⟨rfl,0,rfl,a07 _,by simp⟩,?_⟩
 rintro w H7 ⟨rfl,i,rfl,hi,fb⟩ _;refine ⟨_,rfl,?_⟩;rw [ae];refine aD (fun an=>?_) fun an=>?_
 ·have b9:i<own.length:=by omega
  obtain ⟨p,be,rfl,aj⟩:=ZJ.str (i:=(i:Int)) (by omega) an;simp only [a0j] at aj be;have e1:IntKind.wrap .i64 ((i:Int)+1)=((i+1:Nat):Int):=by rw [ao (by omega) (by omega)];omega
  have ed:own.drop i=own[i] :: own.drop (i+1):=a1S b9;have et:own.take (i+1)=own.take i++[own[i]]:=by rw [a1i];simp [b9]
  have eg:own[i]?=some own[i]:=a0Q b9;rw [ed,qS] at fb;refine ⟨⟨by omega,an⟩,_,rfl,_,by rw [a0j,a0y];exact aj,wd ⟨_,rfl,?_⟩⟩;rw [←decide_not,ae];refine aD (fun h5=>?_) fun h5=>?_
  ·rw [a0b h5] at fb;rw [a0b (by rw [←fb];decide),←fb] at h;exact h _ Tw
  rw [a0a h5] at fb;refine Qk (xs:=own) ZJ ZJ eg hi I6 hl (fun Jk=>?_) fun Td=>?_
  ·rw [a0b Jk] at fb;rw [a0b (by rw [←fb];decide),←fb] at h;exact h _ Tw
  rw [a0a Td] at fb;refine Qk (xs:=(ch v j).map (tx t)) R4.rd ZJ eg (a0U _) (by omega) hl (fun Jk=>?_) fun UJ=>?_
  ·rw [a0Y (by simp;omega)] at Jk;rw [a0b Jk] at fb;rw [a0b (by rw [←fb];decide),←fb] at h;exact h _ Tw
  rw [a0Y (by simp;omega)] at UJ;rw [a0a UJ] at fb;rw [e1];exact ⟨⟨rfl,i+1,rfl,by omega,by rw [et];exact fb⟩,by simp;omega⟩
 ·have ui:i=own.length:=by omega
  rw [ui,a3l] at fb;have h0:qS ((ch v j).map (tx t)) [] own=0:=by rw [←fb];rfl
  rw [a0a (by rw [h0];decide)] at h;have ew:IntKind.wrap .i64 ((l6:Int)+(l:Int))=(l6:Int)+l:=ao (by omega) (by omega);rw [ew,ae];refine aD (fun h5=>?_) fun h5=>?_
  ·rw [a0b (by omega)] at h;exact h _ Tw
  rw [a0a (by omega)] at h;refine yM (hK.nil Tw) hv.ks fun a8 l8 c8 G8 H8 UF Oz V3=>⟨_,_,_,rfl,?_⟩;have hl8:l8=v.cls.length:=by have:=UF.len;simpa [az,jt] using this.symm
  rw [ae];refine aD (fun h6=>?_) fun h6=>?_
  ·rw [a0b (by omega)] at h;exact h H8 (Tw.trans Oz)
  rw [a0a (by omega)] at h;exact h H8 (Tw.trans Oz)
theorem Lm (hK:RK H b F s t) (h:∀ H' nb,RK H' b F s t->bI H' nb #[ac (t.texts.length:Int),ac s.h.mark,ac (s.stack.length:Int)]->nb∉F->Fr [] H H'->H.size<=nb->Q (QW nb) H'):ag PP 101 #[QW b] Q H:=by
 apply Fk;dsimp only [aL,aC,aK,aF,ac,av,aE,am,aJ,ax];obtain ⟨tb,F2,w7,hT,_⟩:=hK.tb;obtain ⟨sb,hb,F1,hc,c0,hR,_⟩:=hK.hp;obtain ⟨sb',F3,Vs,hS,_⟩:=hK.sp;have esb:sb'=sb:=by rw [hc] at Vs;simpa using Vs.symm
 subst esb;obtain ⟨_,a,l,c,_,F4,_,_,_,_,_,_,_,_,hB,_,hO,_⟩:=hS;have XT:aq H ⟨sb',2,none⟩=some (.slice a l c):=hB.cell 2;have hl:l=s.stack.length:=by have:=hO.len;simpa [az] using this.symm
 subst hl;refine ⟨_,rfl,_,w7,_,rfl,_,hc,_,rfl,_,c0,_,rfl,_,hc,_,rfl,_,_,_,by rw [aB];exact XT,vn hT ⟨_,rfl,⟨⟨by rw [aB];exact XT,trivial⟩,⟨hc,trivial⟩,⟨c0,trivial⟩,⟨hc,trivial⟩,trivial⟩,sF hR ⟨_,rfl,⟨⟨by rw [aB];exact XT,trivial⟩,⟨hc,trivial⟩,trivial⟩,trivial,?_⟩⟩⟩;have fa:=Fr.push [] H (.cells #[ac (t.texts.length:Int),ac s.h.mark,ac (s.stack.length:Int)] 232);exact h _ H.size (hK.nil fa) (bI.new _ _ _) (fun hm=>absurd (hK.lt _ hm) (a2B _)) fa (a0U _)
end
section
variable {H:au}{b:Nat}{F:aS}{s:SP}{t:TB}{v:KV}{Q:QT}
theorem P3 (hK:RK H b F s t){nb:Nat}{cnt mk kp:Int} (hN:bI H nb #[ac cnt,ac mk,ac kp]) (Of:nb∉F) (VN:0<=kp∧kp<=1000000){e:Int} (h:∀ H' F',RK H' b F' (pA s t mk cnt kp e).1 (pA s t mk cnt kp e).2->Up F H F' H'->Q (ac e) H') :
  ag PP 103 #[QW b,QW nb,ac e] Q H:=by
 have Jp:=hK.wfs.many;apply IZ;dsimp only [aC,ah,ay,aK,aF,ac,aE,am,aI];unfold pA at h;obtain ⟨sb,F1,hc,hS,ff,_,s6⟩:=hK.sp;have S2:=hS;obtain ⟨_,a,l,c,_,F4,_,_,_,_,_,_,_,_,hB,_,hO,_⟩:=S2;have XT:aq H ⟨sb,2,none⟩=some (.slice a l c):=hB.cell 2;have hl:l=s.stack.length:=by have:=hO.len;simpa [az] using this.symm
 subst hl;have ew:IntKind.wrap .i64 ((s.stack.length:Int)-kp)=(s.stack.length:Int)-kp:=ao (by omega) (by omega);refine ⟨_,rfl,_,hc,_,rfl,_,hc,_,rfl,_,_,_,by rw [aB];exact XT,_,rfl,_,hN.cell 2,?_⟩;rw [ew];refine uS hS fun H2 F2 J2 Jd=>⟨_,rfl,trivial,?_⟩;obtain ⟨F',JP,Su⟩:=s6 H2 F2 _ J2 Jd;rw [bq,ae];refine aD (fun h1=>?_) fun h1=>?_
 ·rw [a0b h1] at h
  have:=h H2 F' JP Su;rw [h1] at this;exact this
 rw [a0a h1] at h;have VI:=hN.fr Su.1 Of;have Xz:=Up.out Su Of hN.lt;obtain ⟨tb,F3,JO,hT,JJ,_,Oy⟩:=JP.tb;refine ⟨_,rfl,_,JO,_,rfl,_,VI.cell 0,Kz hT fun H3 F4 Vn J0=>⟨_,rfl,trivial,?_⟩⟩;obtain ⟨F5,I4,O6⟩:=Oy H3 F4 _ Vn J0;have hN3:=VI.fr O6.1 Xz;have XU:=Su.trans O6;have ed:(s.drop ((s.stack.length:Int)-kp)).2.h=s.h:=by unfold SP.drop;split <;> rfl
 rw [bn,ae];refine aD (fun h2=>?_) fun h2=>?_
 ·rw [a0a h2] at h;obtain ⟨sb4,Jq,F6,Rr,c04,Uh,O0,_,O1⟩:=I4.hp;refine ⟨_,rfl,_,Rr,_,rfl,_,c04,_,rfl,_,hN3.cell 1,vi Uh fun H5 W4 JA=>⟨_,rfl,trivial,?_⟩⟩;obtain ⟨F7,Rs,TW⟩:=O1 H5 F6 _ W4 ⟨JA,fun _ h=>.inl h⟩;simp only [ed] at Rs;exact h H5 F7 Rs (XU.trans TW)
 ·have Uq:e=24:=a0v h2;rw [a0b Uq] at h;refine h H3 F5 ?_ XU;generalize (s.drop ((s.stack.length:Int)-kp)).2=s' at *;cases s';simp only at ed;subst ed;exact I4
theorem tg (hK:RK H b F s t){a:Option Addr}{l c:Nat}{own:List ByteArray} (hr:Rd 1 H a l (bC own)) (hout:ou H a l F) (I6:l<=100000000)
  (h:∀ H' F' a' l' c' G,RK H' b F' s (t.addAll [] own).2->Up F H F' H'->bZ 1 H' a' l' c' (az (t.addAll [] own).1.1) G->(∀ x∈G,H.size<=x∧x∉F')->Q (.tuple #[.slice a' l' c',ac (t.addAll [] own).1.2]) H') :
  ag PP 238 #[QW b,.slice a l c] Q H:=by
 have i7:bd PP 30=some (1,8,some (ac 0)):=by kernel_rfl
 have hl:l=own.length:=by have:=hr.1;simpa [bC] using this.symm
 apply HW;dsimp only [aL,aC,ah,ak,aX,aF,cX,bc,ac,bf,cL,av,bm,aE,am,aJ,bM,aO,bJ,aI];refine ⟨fun w H'=>∃(i:Nat) (t':TB) (acc:List Int) (a':Option Addr) (l' c':Nat) (G F':aS),w=[.slice a' l' c',ac i]∧i<=own.length∧RK H' b F' s t'∧Up F H F' H'∧t'.addAll acc (own.drop i)=t.addAll [] own∧bZ 1 H' a' l' c' (az acc) G∧(∀ x∈G,H.size<=x∧x∉F')∧acc.length=i,fun w _=>match w with
  | [_,.int _ i]=>(own.length-i).toNat
  | _=>0,⟨0,t,[],none,0,0,[],F,rfl,a07 _,hK,Up.refl _ _,rfl,by simpa [az] using bZ.nil 1 H,by simp,rfl⟩,?_⟩
 rintro w H2 ⟨i,t2,acc,a2,l2,c2,G,F2,rfl,hi,JP,Jd,D6,ho,hG,Vp⟩ _;have K2:l2=i:=by have:=ho.len;simp only [az,a1p] at this;omega
 refine ⟨_,_,_,_,rfl,?_⟩;rw [ae];refine aD (fun an=>?_) fun an=>?_
 ·obtain ⟨p,be,rfl,aj⟩:=(hout.rd Jd hr).str (i:=(i:Int)) (by omega) an;simp only [a0j] at aj be;have e1:IntKind.wrap .i64 ((i:Int)+1)=((i+1:Nat):Int):=by rw [ao (by omega) (by omega)];omega
  have ed:own.drop i=own[i] :: own.drop (i+1):=a1S be;rw [ed,TB.addAll] at D6;obtain ⟨tb,F3,JO,hT,JJ,_,Oy⟩:=JP.tb;refine ⟨_,rfl,_,JO,⟨by omega,an⟩,_,rfl,_,by rw [a0j,a0y];exact aj,xr hT fun H3 F4 Vn J0=>⟨_,_,rfl,trivial,?_⟩⟩;obtain ⟨F5,I4,O6⟩:=Oy H3 F4 _ Vn J0;rw [bn,ae];refine aD (fun h3=>?_) fun h3=>?_
  ·rw [a0b h3] at D6;rw [←D6] at h;exact h H3 F5 none 0 0 [] I4 (Jd.trans O6) (bZ.nil 1 _) (by simp)
  rw [a0a h3] at D6;have W6:(t2.add own[i]).1.2=0:=a0v h3;obtain ⟨n,en,en2,_⟩:=kH own[i] W6;have hw3:=I4.wft;have h5:=(ge en2).2;have h6:=hw3.m1;have h7:=hw3.len;rw [en] at D6 ⊢;refine uN ⟨by omega,by omega⟩ ⟨_,rfl,?_⟩;have hoG:∀ x∈G,x<H2.size:=ho.lt;have Ji:bZ 1 H3 a2 l2 c2 (az acc) G:=ho.fr O6.1 fun x hx=>(hG x hx).2;refine bK i7 rfl (by kernel_rfl) Ji rfl (by simp [dJ]) (by omega) (by decide) (by decide) fun a' c' G2 H4 g1 g2 g3=>⟨_,_,_,rfl,?_⟩;rw [e1];have Sn:∀ x∈G,H.size<=x∧x∉F5:=fun x hx=>⟨(hG x hx).1,Up.out O6 (hG x hx).2 (hoG x hx)⟩;have hF5lt:=I4.lt;have J4:RK H4 b F5 s (t2.add own[i]).2:=I4.fr g2.1 fun x hx hm=>(Sn x hm).2 hx;have Oj:Up F H F5 H4:=by
   have Jb:=Jd.trans O6;refine ⟨⟨a0O Jb.1.1 g2.1.1,fun x hx hn=>?_⟩,Jb.2⟩;rw [g2.1.2 x (a0X hx Jb.1.1) (fun hm=>by have:=(Sn x hm).1;omega),Jb.1.2 x hx hn]
  refine ⟨⟨i+1,_,_,a',l2+1,c',G2,F5,rfl,by omega,J4,Oj,D6,?_,fun x hx=>?_,by simp [Vp]⟩,by simp;omega⟩
  ·rw [bR];exact g1
  ·rcases g2.2 x hx with h5 | h5
   ·exact Sn x h5
   ·exact ⟨a0O (Jd.trans O6).1.1 h5,fun hm=>by have:=hF5lt x hm;omega⟩
 ·have ui:i=own.length:=by omega
  rw [ui,a3l,TB.addAll] at D6;rw [←D6] at h;exact h H2 F2 a2 l2 c2 G JP Jd ho hG
theorem xL (hK:RK H b F s t){o:Int}{a:Option Addr}{l c:Nat}{ws:List Int} (hk:Rd 1 H a l (az ws)) (hout:rM H a F) (I6:l<=1000000000)
  (h:∀ H' F',RK H' b F' { s with h:=s.h.lay o 0 ws } t->Up F H F' H'->(∀ o,aq H' ⟨b,o,none⟩=aq H ⟨b,o,none⟩)->Q (.tuple #[]) H'):ag PP 96 #[QW b,ac o,.slice a l c] Q H:=by
 have hl:l=ws.length:=by have:=hk.1;simpa [az] using this.symm
 apply Nd;dsimp only [aC,ah,aX,ay,aF,bc,ac,bf,bX,bm,aE,am,bJ,aI];refine ⟨fun w H'=>∃(i:Nat) (r:RH) (F':aS),w=[ac i]∧i<=ws.length∧RK H' b F' { s with h:=r } t∧Up F H F' H'∧(∀ o,aq H' ⟨b,o,none⟩=aq H ⟨b,o,none⟩)∧r.lay o i (ws.drop i)=s.h.lay o 0 ws,fun w _=>match w with
  | [.int _ i]=>(ws.length-i).toNat
  | _=>0,⟨0,s.h,F,rfl,a07 _,hK,Up.refl _ _,fun _=>rfl,rfl⟩,?_⟩
 rintro w H4 ⟨i,r,F4,rfl,hi,J4,Oj,VJ,D4⟩ _;refine ⟨_,rfl,?_⟩;rw [ae];refine aD (fun an=>?_) fun an=>?_
 ·obtain ⟨p,rfl,aj,be⟩:=(hout.rd Oj hk).int (i:=(i:Int)) (by omega) an;rw [a0j] at aj be;have hx:ws.getD i 0=ws[i]:=by simp [be]
  rw [hx] at aj;have ed:ws.drop i=ws[i] :: ws.drop (i+1):=a1S be;have e:IntKind.wrap .i64 ((i:Int)+1)=((i+1:Nat):Int):=by rw [ao (by omega) (by omega)];omega
  obtain ⟨sb,hb,F1,hc,c0,hR,ff,I2,s6⟩:=J4.hp;have D0:=J4.lt b J4.bmem;refine ⟨_,rfl,_,hc,_,rfl,_,c0,⟨by omega,an⟩,_,rfl,_,by rw [a0j,a0y];exact aj,tZ hR fun H6 SA Jo=>⟨_,rfl,trivial,?_⟩⟩;obtain ⟨F7,RL,S4⟩:=s6 H6 F1 _ SA ⟨Jo,fun _ h=>.inl h⟩;rw [e];refine ⟨⟨i+1,(r.put o i ws[i]).2,F7,rfl,by omega,RL,Oj.trans S4,fun o=>by rw [cM Jo I2 D0];exact VJ o,?_⟩,by simp;omega⟩;rw [←D4,ed];rfl
 ·have ui:i=ws.length:=by omega
  subst ui;rw [a3l] at D4;simp only [RH.lay] at D4;rw [D4] at J4;exact h H4 F4 J4 Oj VJ
theorem Qo (hK:RK H b F s t){o:Int}{a:Option Addr}{l c:Nat}{ws:List Int} (hk:Rd 1 H a l (az ws)) (hout:rM H a F) (I6:l<=1000000000)
  (h:∀ H' F',RK H' b F' { s with h:=s.h.lay o 0 ws } t->Up F H F' H'->Q (.tuple #[]) H'):ag PP 96 #[QW b,ac o,.slice a l c] Q H :=
 xL hK hk hout I6 fun H' F' h1 h2 _=>h H' F' h1 h2
theorem CJ (hK:RK H b F s t){cls:Int} (J1:1<=cls∧cls<=65536){a:Option Addr}{l c:Nat}{ws:List Int} (hk:Rd 1 H a l (az ws)) (hout:rM H a F) (I6:l<=1000000000) (ic:cls=11->ws≠[])
  (h:∀ H' F',RK H' b F' (s.make cls ws).2 t->Up F H F' H'->Q (.tuple #[ac (s.make cls ws).1.1,ac (s.make cls ws).1.2]) H'):ag PP 239 #[QW b,ac cls,.slice a l c] Q H:=by
 have hl:l=ws.length:=by have:=hk.1;simpa [az] using this.symm
 apply zy;dsimp only [aL,aA,aC,ah,ak,fe,aF,ac,mS,av,aE,am,aJ];unfold SP.make at h;refine ⟨fun w H'=>w=[]∧H'=H,?_,?_⟩
 ·rw [bq,ae];refine aD (fun h1=>?_) fun h1=>⟨rfl,rfl⟩;rw [bq,ae];refine aD (fun h2=>?_) fun h2=>⟨rfl,rfl⟩;exact absurd (a1o (by omega)) (ic h1)
 rintro w H2 ⟨rfl,rfl⟩ _;obtain ⟨sb,F1,hc,hS,ff,_,s6⟩:=hK.sp;refine ⟨rfl,_,rfl,_,hc,ce ⟨by omega,by omega⟩ ⟨_,rfl,⟨⟨hc,trivial⟩,trivial⟩,?_⟩⟩;rw [hl];refine oP hS fun H1 F3 Om JT=>⟨_,_,rfl,trivial,?_⟩;obtain ⟨F4,J4,Oj⟩:=s6 H1 F3 _ Om JT;rw [bn,ae];refine aD (fun h1=>?_) fun h1=>?_
 ·rw [a0b h1] at h;exact h _ _ J4 Oj
 rw [a0a h1] at h;have hz:(s.alloc (4*cls) ws.length 0).1.2=0:=a0v h1;obtain ⟨o,e1,o1,o2,_⟩:=ox hK.wfs hz;rw [e1] at h ⊢;have e2:4*o / 4=o:=by omega
 rw [e2] at h;generalize (s.alloc (4*cls) ws.length 0).2=s1 at *;refine cR (eP (by omega) (by omega)) ⟨_,rfl,?_⟩;rw [ia o1,←hl];refine Qo J4 (hout.rd Oj hk) (hout.up Oj) (by omega) fun H5 F5 Rs TW=>⟨rfl,?_⟩;have fp:=Fr.push [] H5 (.cells #[ac (4*o)] 26);have hcx:∃ sb,aq H5 ⟨b,0,none⟩=some (QW sb):=by obtain ⟨sb,_,hc,_⟩:=Rs.sp;exact ⟨sb,hc⟩
 obtain ⟨sb5,JB⟩:=hcx;refine ⟨_,rfl,_,JB,?_⟩;have SH:=Rs.nil fp;obtain ⟨sb6,F6,XG,WY,hsub6,_,a15⟩:=SH.sp;have esb:sb6=sb5:=by
  rw [cM fp (by simp) (eK JB),JB] at XG;simpa using XG.symm
 subst esb;refine ww WY (jm (cs:=[4*o])) (by decide) fun H7 F7 W2 S4=>⟨_,rfl,?_⟩;obtain ⟨F8,Sp,SJ⟩:=a15 H7 F7 _ W2 S4;exact h H7 F8 Sp ((Oj.trans TW).trans ((Up.of_nil fp).trans SJ))
theorem yq (hK:RK H b F s t){a:Option Addr}{l c:Nat}{ws:List Int} (hk:Rd 1 H a l (az ws)) (hout:rM H a F) (I6:l<=1000000000)
  (h:∀ H' F',RK H' b F' (s.array ws).2 t->Up F H F' H'->Q (.tuple #[ac (s.array ws).1.1,ac (s.array ws).1.2]) H'):ag PP 239 #[QW b,ac 11,.slice a l c] Q H:=by
 unfold SP.array at h;by_cases he:ws=[]
 ·rw [a0b he] at h;have hl:l=0:=by have:=hk.1;rw [he] at this;simpa [az] using this.symm
  apply zy;dsimp only [aL,aA,aC,ah,ak,fe,aF,ac,mS,av,aE,am,aJ];refine ⟨fun w H'=>False,?_,fun _ _ hf=>hf.elim⟩;rw [bq,ae,a0b rfl,bq,ae,a0b (by omega)];exact ce (by decide) ⟨_,rfl,h H F hK (Up.refl _ _)⟩
 ·rw [a0a he] at h;exact CJ hK (by decide) hk hout I6 (fun _=>he) h
end
theorem Up.mid {F F1 G:aS}{H H1 H2:au} (hu:Up F H F1 H1) (hg:Fr G H1 H2) (hG:∀ x∈G,H.size<=x):Up F H F1 H2 :=
 ⟨⟨a0O hu.1.1 hg.1,fun x hx hn=>by rw [hg.2 x (a0X hx hu.1.1) (fun hm=>by have:=hG x hm;omega),hu.1.2 x hx hn]⟩,hu.2⟩
theorem Nv {H:au}{x:ByteArray}{t:TypeId}:Rd 1 (H.push (.cells #[.string x] t)) (some ⟨H.size,0,none⟩) 1 (bC [x]):=by
 refine ⟨rfl,(fun h=>by cases h),fun p hp k hk=>?_⟩;cases hp;rw [aB,a0K,(bI.new H _ _).cell]
 have:k=0:=by omega
 subst this;rfl
theorem xI (t:TB) (x:ByteArray):t.addAll [] [x]=if (t.add x).1.2≠0 then (([],(t.add x).1.2),(t.add x).2) else (([4*(t.add x).1.1+2],0),(t.add x).2):=by
 rw [TB.addAll];split
 ·rfl
 ·rw [TB.addAll];rfl
section
variable {H:au}{b:Nat}{F:aS}{s:SP}{t:TB}{v:KV}{Q:QT}
theorem Lt {H0:au}{F0:aS} (hu:Up F0 H0 F H) (hK:RK H b F s t){a:Option Addr}{l c l2 c2:Nat}{a2:Option Addr}{G:aS}{ws xs:List Int} (ho:bZ 1 H a l c (az ws) G) (hG:∀ x∈G,H0.size<=x∧x∉F) (Do:ws.length<=8192) (h2:Rd 1 H a2 l2 (az xs)) (UR:l2<=8192)
  {K:Value->au->Prop} (h:∀ a' c' H' G',RK H' b F s t->Up F0 H0 F H'->bZ 1 H' a' (l+l2) c' (az (ws++xs)) G'->(∀ x∈G',H0.size<=x∧x∉F)->K (.slice a' (l+l2) c') H') :
  cB PP (Builtin.append_ #[30,30] 30 #[.slice a l c,.slice a2 l2 c2]) K H:=by
 have i7:bd PP 30=some (1,8,some (ac 0)):=by kernel_rfl
 have hl:l=ws.length:=by have:=ho.len;simpa [az] using this.symm
 have an:=hK.lt;refine dz i7 rfl (by kernel_rfl) ho h2 fO (by omega) (by decide) (by decide) fun a' c' G' H' g1 g2 g3=>?_;rw [←bR] at g1;refine h a' c' H' G' (hK.fr g2.1 fun x hx hm=>(hG x hm).2 hx) (Up.mid hu g2.1 fun x hx=>(hG x hx).1) g1 fun x hx=>?_;rcases g2.2 x hx with h5 | h5
 ·exact hG x h5
 ·exact ⟨a0O hu.1.1 h5,fun hm=>by have:=an x hm;omega⟩
theorem tM {a:Option Addr}{l c:Nat}{xs:List Value}{G:aS} (h:bZ 1 H a l c xs G) (hd:∀ x∈G,x∉F):rM H a F:=bZ.out h fun x hx hm=>hd x hx hm
theorem Bo (hK:RK H b F s t) (hk:KS s v){name:ByteArray}{up:Int} (s6:1<=up∧up<=65536) (s8:s.stack.length<60000){a:Option Addr}{l c:Nat}{own:List ByteArray} (hr:Rd 1 H a l (bC own)) (hout:ou H a l F) (I6:l<=100000000)
  (h:∀ H' F',RK H' b F' (gF s t v.clsW name up own).2.1 (gF s t v.clsW name up own).2.2->Up F H F' H'->Q (.tuple #[ac (gF s t v.clsW name up own).1.1,ac (gF s t v.clsW name up own).1.2]) H') :
  ag PP 102 #[QW b,.string name,ac up,.slice a l c] Q H:=by
 have CO:=hk.shape.many1;have Tv:v.clsW.length=v.cls.length:=by simp [KV.clsW]
 apply FJ;dsimp only [aL,aA,aC,cq,ah,ak,dM,ay,aF,bc,ac,bf,av,aE,am,aJ,bM,aO,ax,aI];unfold gF at h;have fp:=Fr.push [] H (.cells #[.string name] 9);have a17:Up F H F (H.push (.cells #[.string name] 9)):=Up.of_nil fp;refine tg (hK.nil fp) (own:=[name]) Nv (.inr fun p hp=>?_) (by decide) fun H1 F1 a6 l6 c6 G6 s5 JT R4 hG6=>⟨_,_,_,_,rfl,?_⟩
 ·cases hp;exact ⟨by simp,fun hm=>absurd (hK.lt _ hm) (a2B _)⟩
 have T6:=a17.trans JT;rw [xI] at s5 R4 ⊢;rw [bn,ae];by_cases h1:(t.add name).1.2=0
 rotate_left
 ·rw [a0b h1] at h;rw [a0b (show (t.add name).1.2≠0 from h1)] at s5 ⊢;rw [a0b h1];exact h H1 F1 s5 T6
 rw [a0a (show ¬ (t.add name).1.2≠0 from fun hn=>hn h1)] at s5 R4 h ⊢;rw [a0a (fun hn=>hn rfl)];obtain ⟨nn,en,en2,_⟩:=kH name h1;rw [en] at h R4;generalize (t.add name).2=t1 at *;have S5:=hout.up T6;have OP:=hout.rd T6 hr;have hG6':∀ x∈G6,H.size<=x∧x∉F1:=fun x hx=>⟨a0O fp.1 (hG6 x hx).1,(hG6 x hx).2⟩;refine tg s5 OP S5 I6 fun H2 F2 a9 l9 c9 G9 JP Jd ho9 hG9=>⟨_,_,_,_,rfl,?_⟩;have XV:=T6.trans Jd;rw [bn,ae];refine aD (fun h2=>?_) fun h2=>?_
 ·rw [a0b h2] at h;exact h H2 F2 JP XV
 rw [a0a h2] at h;have hz2:(t1.addAll [] own).1.2=0:=a0v h2;obtain ⟨ns,ens,ens2⟩:=oz [] own hz2;rw [a35] at ens;have S6:=JP.wft;have S1:∀ n∈ns,n<(t1.addAll [] own).2.texts.length:=fun n hn=>by
  have:(t1.addAll [] own).2.texts[n]?∈own.map some:=by rw [←ens2];exact a1n.2 ⟨n,hn,rfl⟩
  obtain ⟨s,_,hs⟩:=a1n.1 this;exact (ge hs.symm).2
 have Ub:nn<(t1.addAll [] own).2.texts.length:=by
  have h5:=(ge en2).2;obtain ⟨m,e⟩:=(kk t1 [] own).2;rw [e,a1h];omega
 have Do:∀ w∈(t1.addAll [] own).1.1,dL w:=fun w hw=>by
  rw [ens] at hw;obtain ⟨x,hx,rfl⟩:=a1n.1 hw;exact lH S6 (S1 x hx)
 have hl9:l9<=1000000000:=by
  have e1:=ho9.len;have e2:ns.length=own.length:=by have:=congrArg List.length ens2;simpa using this
  rw [ens] at e1;simp only [az,a1p] at e1;have e3:l=own.length:=by have:=hr.1;simpa [bC] using this.symm
  omega
 unfold lx at h;generalize (t1.addAll [] own).1.1=acc at *;generalize (t1.addAll [] own).2=t2 at *;obtain ⟨a1,a2,⟨m1,a3,a3'⟩,a4⟩:=iD hk (by omega) Do;refine yq JP ho9.rd (tM ho9 fun x hx=>(hG9 x hx).2) hl9 fun H3 F3 I4 J0=>⟨_,_,rfl,?_⟩;have VK:=XV.trans J0;rw [bn,ae];refine aD (fun h3=>?_) fun h3=>?_
 ·rw [a0b h3] at h;exact h H3 F3 I4 VK
 rw [a0a h3] at h;have W6:(s.array acc).1.2=0:=a0v h3;obtain ⟨lo,elo,lo1,lo2,_⟩:=a4 W6;rw [elo] at h ⊢;generalize (s.array acc).2=s1 at *;obtain ⟨e0,b0,b1⟩:=KS.s0 a1;refine wU I4 a1 e0 b0 b1 ⟨_,rfl,pX I4 fun aw lw cw Gw H6 Rt Jo XC=>⟨_,_,_,rfl,?_⟩⟩;rw [show kwords s1.h v.clsA=v.clsW from a1.view.all.kwords] at Rt;have VE:lw=v.clsW.length:=by have:=Rt.len;simpa [az] using this.symm
 have SH:=I4.nil Jo;have SF:l6=1:=by have:=R4.len;simpa [az] using this.symm
 have XW:rM H1 a6 F1:=tM R4 fun x hx=>(hG6 x hx).2;have VR:=(XW.rd ((Jd.trans J0).trans (Up.of_nil Jo)) R4.rd);obtain ⟨q6,ZI,VL,_⟩:=VR.int (i:=0) (by decide) (by omega);subst ZI;have Je:aq H6 (q6.add (Int.toNat 0*1))=some (ac (4*(nn:Int)+2)):=by simpa using VL
 have ew:IntKind.wrap .i64 ((lw:Int)+1)=(lw:Int)+1:=ao (by omega) (by omega);refine ⟨⟨a1F 0,by omega⟩,_,rfl,_,Je,ce ⟨by omega,by omega⟩ ⟨_,rfl,⟨⟨Je,trivial⟩,trivial⟩,ce (by decide) ⟨_,rfl,⟨⟨Je,trivial⟩,trivial⟩,ce (by decide) ⟨_,rfl,⟨⟨Je,trivial⟩,trivial⟩,dW (by decide) ⟨_,rfl,⟨⟨Je,trivial⟩,trivial⟩,?_⟩⟩⟩⟩⟩;rw [ew];refine dW ⟨by omega,by omega⟩ ⟨_,rfl,⟨⟨Je,trivial⟩,trivial⟩,trivial,?_⟩;unfold jo at h;have Tg:=gJ (n:=4*(nn:Int)+2) (up:=up) (l:=4*lo) (k:=v.clsW.length) (lH S6 Ub) (dN s6.1 s6.2) (dN lo1 lo2) (by omega);obtain ⟨k1,k2,k3,k4⟩:=lY a1 (by rw [a3,a1h];omega) (cls:=12) (by decide) Tg;have fp6:=Fr.push [] H6 (.cells (az (cW (4*(nn:Int)+2) up (4*lo) v.clsW.length)).toArray 26);have a2c:=SH.lt;rw [VE];refine CJ (s:=s1) (ws:=cW (4*(nn:Int)+2) up (4*lo) v.clsW.length) (SH.nil fp6) (by decide) jm
  (fun p hp=>by cases hp;exact ⟨by simp,fun hm=>absurd (a2c _ hm) (a2B _)⟩) (by decide) (fun h=>absurd h (by decide)) fun H7 F7 RL S4=>⟨_,_,rfl,trivial,?_⟩
 have XX:=(VK.trans (Up.of_nil Jo)).trans ((Up.of_nil fp6).trans S4);rw [bn,ae];refine aD (fun h4=>?_) fun h4=>?_
 ·rw [a0b h4] at h;exact h H7 F7 RL XX
 rw [a0a h4] at h;have hz4:(s1.make 12 (cW (4*(nn:Int)+2) up (4*lo) v.clsW.length)).1.2=0:=a0v h4;obtain ⟨cc,ec,est,cc1,cc2,_⟩:=k4 hz4;rw [ec] at h ⊢;generalize (s1.make 12 (cW (4*(nn:Int)+2) up (4*lo) v.clsW.length)).2=s2 at *;unfold fI at h;have a2d:∀ x∈Gw,H.size<=x∧x∉F7:=fun x hx=>by
  have h5:=XC x hx;refine ⟨a0O VK.1.1 h5,Up.out ((Up.of_nil fp6).trans S4) (fun hm=>by have:=I4.lt x hm;omega) (Rt.lt x hx)⟩
 have a2e:bZ 1 H7 aw lw cw (az v.clsW) Gw:=(Rt.fr fp6 (by simp)).fr S4.1 fun x hx hm=>by
  have h5:=XC x hx
  have:=I4.lt x hm;omega
 have fp7:=Fr.push [] H7 (.cells #[ac (4*cc)] 26);subst VE;refine Lt (XX.trans (Up.of_nil fp7)) (RL.nil fp7) (a2e.fr fp7 (by simp)) a2d (by omega) (jm (cs:=[4*cc])) (by simp) fun a8 c8 H8 G8 Sp SJ UF V3=>⟨_,_,_,rfl,?_⟩;refine yq Sp UF.rd (tM UF fun x hx=>(V3 x hx).2) (by simp;omega) fun H9 F9 J8 SI=>⟨_,_,rfl,?_⟩;have a2f:∀ w∈v.clsW++[4*cc],dL w:=fun w hw=>by
  rcases a0T.1 hw with hw | hw
  ·exact ki hk w hw
  ·simp only [a0A] at hw;rw [hw];exact dN cc1 cc2
 obtain ⟨x1,x2,x3,x4⟩:=iD k1 (by rw [est,a3];simp;omega) a2f;rw [bn,ae];refine aD (fun h5=>?_) fun h5=>?_
 ·rw [a0b h5] at h;exact h H9 F9 J8 (SJ.trans SI)
 rw [a0a h5] at h;obtain ⟨sb,Fs,hcs,hS,ff,_,a2g⟩:=J8.sp;refine ⟨_,rfl,_,hcs,vr hS fun HA Xg hfA=>⟨_,rfl,cR (eP (by omega) (by omega)) ⟨_,rfl,?_⟩⟩⟩;obtain ⟨FA,Uw,Vy⟩:=a2g HA Fs _ Xg ⟨hfA,fun _ h=>.inl h⟩
 have:=h HA FA Uw ((SJ.trans SI).trans Vy);rw [ia cc1];have e4:4*cc / 4=cc:=by omega
 simp only [e4] at this;exact this
theorem Aa (hK:RK H b F s t) (hv:KAllW s t v) (s8:s.stack.length<60000){name sup:ByteArray}{a:Option Addr}{l c:Nat}{own:List ByteArray} (hr:Rd 1 H a l (bC own)) (hout:ou H a l F) (I6:l<=1000000000000000)
  (h:∀ H' F',RK H' b F' (cY s v t name sup own).2.1 (cY s v t name sup own).2.2->Up F H F' H'->Q (.tuple #[ac (cY s v t name sup own).1.1,ac (cY s v t name sup own).1.2]) H') :
  ag PP 39 #[QW b,.string name,.string sup,.slice a l c] Q H:=by
 apply M9;dsimp only [aA,aC,du,ah,ak,ac,av,am,aO,ax];unfold cY at h;refine AI hK hv hr (by omega) fun H1 bw=>⟨_,_,rfl,?_⟩;rw [bn,ae];refine aD (fun h1=>?_) fun h1=>?_
 ·rw [a0b h1] at h;exact h H1 F (hK.nil bw) (Up.of_nil bw)
 rw [a0a h1] at h;obtain ⟨j,hj,ej,an,Db,_,_⟩:=tU hv (a0v h1);rw [ej] at h ⊢;have hb:=kO hv.ks hj;refine Lm (hK.nil bw) fun H2 nb JP hN Of fa JR=>⟨_,rfl,?_⟩;have Jd:Up F H F H2:=Up.of_nil (bw.trans fa);have a0S:=vK (a0v h1);refine Bo JP hv.ks hb s8 (hout.rd Jd hr) (hout.up Jd) (by have:=hr.1;simp only [bC,a1p] at this;omega) fun H3 F3 I4 J0=>⟨_,_,rfl,?_⟩;refine P3 I4 (hN.fr J0.1 Of) (Up.out J0 Of hN.lt) ⟨by omega,by omega⟩ fun H4 F4 J4 Oj=>⟨_,rfl,?_⟩
 have:=h H4 F4 J4 ((Jd.trans J0).trans Oj);unfold cU at this;rw [bn,ae];refine aD (fun h2=>?_) fun h2=>?_
 ·rw [a0a h2] at this;exact this
 ·have hz:=a0v h2;rw [a0b hz] at this;have e0:(gF s t v.clsW name (v.cls[j]).oop own).1.2=0:=hz;rw [e0] at this;exact this
end
section
def gK (H:au):Prop:=∀ i (hi:i<cI.length),aq H ⟨dF,i,none⟩=some (.string cI[i])
theorem gK.fr {H H':au}{F:aS} (h:gK H) (hf:Fr F H H') (hn:dF∉F):gK H':=fun i hi=>by
 rw [cM hf hn (eK (h i hi))];exact h i hi
theorem gK.lt {H:au} (h:gK H):dF<H.size:=eK (h 0 (by decide))
theorem Qz (x:RH):x.lay 19 0 [80,72,72,72,4,8,12,4]=((x.lay 19 0 sP).put 19 7 4).2:=rfl
theorem Ap (w o m b t:Int):((cy ⟨w,o,m,b,t,cH⟩).put 19 7 4).2=cy ⟨w,o,m,b,t,cH⟩:=by kernel_rfl
theorem Af {words oops:Int} (hz:((cC words oops).allocAll ba).1=0):(kI ((cC words oops).allocAll ba).2 14).lay 19 0 [80,72,72,72,4,8,12,4]=bL words oops:=by
 have e:((cC words oops).allocAll ba).2=⟨words,oops,0,20,0,cH⟩:=by
  rw [jI ba (r:=cC words oops) rfl hz]
  kernel_rfl
 have e2:bL words oops=cy ⟨words,oops,0,20,0,cH⟩:=by unfold bL;rw [e]
 rw [Qz,e2,e];exact Ap words oops 0 20 0
attribute [local irreducible] bL cy cH
section
variable {H:au}{Q:QT}
theorem P7 {k:Nat} (hk:k<ba.length) (h:Q (.tuple #[ac (ba[k]).1,ac (ba[k]).2]) H):ag PP 93 #[ac ((k:Int)+1)] Q H:=by
 apply Mm;dsimp only [aA,ah,aX,aI];have Zy:k<20:=hk;rcases k with _ | _ | _ | _ | _ | _ | _ | _ | _ | _ | _ | _ | _ | _ | _ | _ | _ | _ | _ | _ | k
 all_goals first | exact h | omega
theorem x8 {words oops:Int} (hN:gK H) (gw:¬ (0<=words∧words<=1048576∧0<=oops∧oops<=65536)->Q (.tuple #[.pointer none,ac 1]) H)
  (h1:(0<=words∧words<=1048576∧0<=oops∧oops<=65536)->((cC words oops).allocAll ba).1≠0->∀ H',Fr [] H H'->Q (.tuple #[.pointer none,ac ((cC words oops).allocAll ba).1]) H')
  (h2:(0<=words∧words<=1048576∧0<=oops∧oops<=65536)->((cC words oops).allocAll ba).1=0->∀ b F H',RK H' b F (kQ words oops) jp->Fr [] H H'->(∀ x∈F,H.size<=x)->Q (.tuple #[QW b,ac 0]) H') :
  ag PP 38 #[ac words,ac oops] Q H:=by
 have h14:cI.length=14:=rfl;apply Mo;dsimp only [aL,aN,aC,ah,ak,fN,fe,aX,aF,cX,ac,C7,bX,av,bm,aE,am,aJ,aO,ax,bJ,aI];refine EA (fun hb=>⟨_,_,rfl,gw hb⟩) fun hg sb F1 H1 Om bw Jx=>⟨_,_,rfl,?_⟩;simp only [show ((0:Int) != 0)=false from rfl,a0f];have h1:=h1 hg;have h2:=h2 hg;refine C8 (fun hb=>absurd ⟨by decide,by decide⟩ hb) fun _ H2 So fa=>⟨_,_,rfl,?_⟩;have yB:=bw.trans fa;have J2:=Om.fr fa (bU.nil_right _);have I4:RK (H2.push (.cells #[QW sb,.pointer (some ⟨H1.size,0,none⟩)] 100)) H2.size (H2.size :: (F1++[H1.size])) ⟨cC words oops,0,[],false,0,0,0⟩ ⟨4096,[]⟩:=by
  have fp:=Fr.push [] H2 (.cells #[QW sb,.pointer (some ⟨H1.size,0,none⟩)] 100);have l1:=J2.lt;have l1':=Om.lt;have l2:=So.lt;exact ⟨sb,H1.size,F1,[H1.size],rfl,fun hm=>absurd (l1 _ hm) (a2B _),fun hm=>absurd (l2 _ hm) (a2B _),fun x hx At=>by simp only [a0A] at At;have:=l1' x hx;omega,bI.new _ _ _,J2.fr fp (bU.nil_right _),So.fr fp (bU.nil_right _)⟩
 have l7:Fr [] H (H2.push (.cells #[QW sb,.pointer (some ⟨H1.size,0,none⟩)] 100)):=yB.more;have J3:∀ x∈H2.size :: (F1++[H1.size]),H.size<=x:=fun x hx=>by
  rcases a0E.1 hx with rfl | hx
  ·exact yB.1
  ·rcases a0T.1 hx with hx | hx
   ·exact Jx x hx
   ·simp only [a0A] at hx;rw [hx];exact bw.1
 have Jm:aq (H2.push (.cells #[QW sb,.pointer (some ⟨H1.size,0,none⟩)] 100)) ⟨H2.size,0,none⟩=some (QW sb):=(bI.new H2 _ _).cell 0;have uF:aq (H2.push (.cells #[QW sb,.pointer (some ⟨H1.size,0,none⟩)] 100)) ⟨H2.size,1,none⟩=some (.pointer (some ⟨H1.size,0,none⟩)):=(bI.new H2 _ _).cell 1;generalize (H2.push (.cells #[QW sb,.pointer (some ⟨H1.size,0,none⟩)] 100))=H3 at I4 l7 Jm uF ⊢;generalize (H2.size :: (F1++[H1.size]))=F3 at I4 J3;have Zy:ba.length=20:=rfl;have hgF:∀ {H':au}{F':aS},Up F3 H3 F' H'->dF∉F':=fun {H' F'} hu hm=>by
  have an:=hN.lt;rcases hu.2 _ hm with h5 | h5
  ·have:=J3 _ h5;omega
  ·have:=l7.1;omega
 refine ⟨fun w H'=>∃(k:Nat) (r:RH) (F':aS),w=[ac ((k:Int)+1)]∧k<=20∧RK H' H2.size F' ⟨r,0,[],false,0,0,0⟩ ⟨4096,[]⟩∧Up F3 H3 F' H'∧aq H' ⟨H2.size,0,none⟩=some (QW sb)∧aq H' ⟨H2.size,1,none⟩=some (.pointer (some ⟨H1.size,0,none⟩))∧r.allocAll (ba.drop k)=(cC words oops).allocAll ba,fun w _=>match w with
  | [.int _ k]=>(21-k).toNat
  | _=>0,⟨0,_,_,rfl,by decide,I4,Up.refl _ _,Jm,uF,rfl⟩,?_⟩
 rintro w H8 ⟨k,r,F8,rfl,a08,Sp,SJ,hd0,hd1,b8⟩ _;refine ⟨_,rfl,?_⟩;rw [ae];refine aD (fun an=>?_) fun an=>?_
 ·have Od:k<ba.length:=by omega
  have e1:IntKind.wrap .i64 ((k:Int)+1+1)=((k+1:Nat):Int)+1:=by rw [ao (by omega) (by omega)];omega
  have Zz:=rI k Od;have ed:ba.drop k=ba[k] :: ba.drop (k+1):=a1S Od;rw [ed,mg] at b8;obtain ⟨sb',hb,FB,hcs,c0,hRB,ff,I2,s6⟩:=Sp.hp;have esb:sb'=sb:=by rw [hd0] at hcs;simpa using hcs.symm
  subst esb;refine P7 Od ⟨_,_,rfl,_,rfl,_,c0,ce ⟨by omega,by omega⟩ ⟨_,rfl,⟨⟨c0,trivial⟩,trivial⟩,qq hRB fun H9 FB' Vu SI=>⟨_,_,rfl,trivial,?_⟩⟩⟩;obtain ⟨F9,J8,XY⟩:=s6 H9 FB' _ Vu SI;have D0:=Sp.lt _ Sp.bmem;rw [bn,ae];refine aD (fun he=>?_) fun he=>?_
  ·rw [a0b he] at b8;have e0:((cC words oops).allocAll ba).1=(r.alloc (4*(ba[k]).1) (ba[k]).2 0).1.2:=by rw [←b8]
   have:=h1 (by rw [e0];exact he) H9 (Up.fresh l7 (SJ.trans XY) J3).1;rw [e0] at this;exact this
  rw [a0a he] at b8;rw [e1];exact ⟨⟨k+1,_,F9,rfl,by omega,J8,SJ.trans XY,by rw [cM SI.1 I2 D0];exact hd0,by rw [cM SI.1 I2 D0];exact hd1,b8⟩,by simp;omega⟩
 have Ta:k=20:=by omega
 subst Ta;have ez:ba.drop 20=[]:=rfl;rw [ez] at b8;have O4:(0,r)=(cC words oops).allocAll ba:=b8;have hz:((cC words oops).allocAll ba).1=0:=by rw [←O4]
 have Xm:r=((cC words oops).allocAll ba).2:=by rw [←O4]
 have hbH:cy r=bL words oops:=by rw [Xm];exact sA _ _
 have hNm:∀ {H':au}{F':aS},Up F3 H3 F' H'->gK H':=fun {H' F'} hu=>by
  have hN3:=hN.fr l7 (by simp);exact hN3.fr hu.1 (fun hm=>by have:=J3 _ hm;have:=hN.lt;omega)
 refine ⟨fun w H'=>∃(i:Nat) (F':aS),w=[ac i]∧i<=14∧RK H' H2.size F' ⟨kI r i,0,[],false,0,0,0⟩ ⟨4096,cI.take i⟩∧Up F3 H3 F' H'∧aq H' ⟨H2.size,0,none⟩=some (QW sb)∧aq H' ⟨H2.size,1,none⟩=some (.pointer (some ⟨H1.size,0,none⟩)),fun w _=>match w with
  | [.int _ i]=>(14-i).toNat
  | _=>0,⟨0,F8,rfl,by decide,Sp,SJ,hd0,hd1⟩,?_⟩
 rintro w H9 ⟨i,F9,rfl,hi,J8,SI,Ua,Oq⟩ _;refine ⟨_,rfl,?_⟩;rw [ae];refine aD (fun be=>?_) fun be=>?_
 ·have b9:i<cI.length:=by omega
  have hN9:=hNm SI i b9;have e1:IntKind.wrap .i64 ((i:Int)+1)=((i+1:Nat):Int):=by rw [ao (by omega) (by omega)];omega
  have e1':IntKind.wrap .i64 ((i:Int)+1)=(i:Int)+1:=ao (by omega) (by omega);have e4:IntKind.wrap .i64 (4+(i:Int))=4+(i:Int):=ao (by omega) (by omega);obtain ⟨tb,FT,V5,hT,hsubT,hbT,a2i⟩:=J8.tb;have etb:tb=H1.size:=by rw [Oq] at V5;simpa using V5.symm
  subst etb;refine ⟨⟨by omega,be⟩,_,by rw [aB,a0j,a0y,a0K];exact hN9,xr hT fun HA FT' hTA Vy=>⟨_,_,rfl,?_⟩⟩;rw [ym b9] at hTA;obtain ⟨FA,Uw,a2j⟩:=a2i HA FT' _ hTA Vy;have XZ:=J8.lt _ J8.bmem;have JQ:aq HA ⟨H2.size,0,none⟩=some (QW sb):=by rw [cM Vy.1 hbT XZ];exact Ua
  have hy1:aq HA ⟨H2.size,1,none⟩=some (.pointer (some ⟨H1.size,0,none⟩)):=by rw [cM Vy.1 hbT XZ];exact Oq
  refine ce (by decide) ⟨_,rfl,?_⟩;refine ⟨fun w H'=>w=[ac (if i=0 then 4 else 16)]∧H'=HA,?_,?_⟩
  ·rw [bq,ae];refine aD (fun h0=>ce (by decide) ⟨_,rfl,?_,rfl⟩) fun h0=>⟨?_,rfl⟩
   ·rw [a0b (by omega)];rfl
   ·rw [a0a (by omega)];rfl
  rintro w HA' ⟨rfl,rfl⟩ _;refine ⟨_,rfl,uN ⟨by omega,by omega⟩ ⟨_,rfl,ce (by decide) ⟨_,rfl,ce (by decide) ⟨_,rfl,ce (by decide) ⟨_,rfl,dW (by decide) ⟨_,rfl,?_⟩⟩⟩⟩⟩⟩;rw [e1',e4];refine dW ⟨by omega,by omega⟩ ⟨_,rfl,?_⟩;have fq:=(Fr.push [] HA' (.cells (az (fU i)).toArray 26));have hlA:=Uw.lt;refine xL (Uw.nil fq) (ws:=fU i) jm (fun p hp=>by cases hp;exact ⟨by simp,fun hm=>absurd (hlA _ hm) (a2B _)⟩) (by decide) fun HB FB Sq Xj VJ=>⟨rfl,?_⟩;have OH:aq HB ⟨H2.size,0,none⟩=some (QW sb):=by rw [VJ,cM fq (by simp) (eK JQ)];exact JQ
  have hz1:aq HB ⟨H2.size,1,none⟩=some (.pointer (some ⟨H1.size,0,none⟩)):=by rw [VJ,cM fq (by simp) (eK hy1)];exact hy1
  obtain ⟨sb',hb,FC,hcs,c0,hRC,ff,I2,Vx⟩:=Sq.hp;have esb:sb'=sb:=by rw [OH] at hcs;simpa using hcs.symm
  subst esb;refine ⟨_,rfl,_,c0,ce ⟨by omega,by omega⟩ ⟨_,rfl,⟨⟨c0,trivial⟩,trivial⟩,tZ hRC fun HD hRD hfD=>⟨_,rfl,trivial,?_⟩⟩⟩;obtain ⟨FD,hKD,ZC⟩:=Vx HD FC _ hRD ⟨hfD,fun _ h=>.inl h⟩;rw [show (i:Int)+1=((i+1:Nat):Int) by omega];have D0:=Sq.lt _ Sq.bmem;refine ⟨⟨i+1,FD,rfl,by omega,hKD,?_,by rw [cM hfD I2 D0];exact OH,by rw [cM hfD I2 D0];exact hz1⟩,by simp;omega⟩;exact ((SI.trans a2j).trans ((Up.of_nil fq).trans Xj)).trans ZC
 ·have S8:i=14:=by omega
  subst S8;refine ce (by decide) ⟨_,rfl,ce (by decide) ⟨_,rfl,ce (by decide) ⟨_,rfl,ce (by decide) ⟨_,rfl,ce (by decide) ⟨_,rfl,ce (by decide) ⟨_,rfl,ce (by decide) ⟨_,rfl,ce (by decide) ⟨_,rfl,?_⟩⟩⟩⟩⟩⟩⟩⟩;have fq:=(Fr.push [] H9 (.cells (az [80,72,72,72,4,8,12,4]).toArray 26));have hl9:=J8.lt;have Sl:Rd 1 (H9.push (.cells (az [80,72,72,72,4,8,12,4]).toArray 26)) (some ⟨H9.size,0,none⟩) 8 (az [80,72,72,72,4,8,12,4]):=jm (cs:=[80,72,72,72,4,8,12,4]);have hRW:(kI r 14).lay 19 0 [80,72,72,72,4,8,12,4]=bL words oops:=by rw [Xm];exact Af hz
  show ag PP 96 _ _ (H9.push (.cells (az [80,72,72,72,4,8,12,4]).toArray 26));generalize (H9.push (.cells (az [80,72,72,72,4,8,12,4]).toArray 26))=H9' at fq Sl ⊢;have hKq:=J8.nil fq;have hlq:rM H9' (some ⟨H9.size,0,none⟩) F9:=fun p hp=>by
   cases hp;have h6:=Sl.2.2 _ rfl 0 (by decide);rw [aB] at h6;exact ⟨eK (h6.trans (by rfl)),fun hm=>absurd (hl9 _ hm) (a2B _)⟩
  generalize ([80,72,72,72,4,8,12,4]:List Int)=W8 at Sl hRW;generalize kI r 14=R8 at hKq hRW;have eT:(⟨4096,cI.take 14⟩:TB)=jp:=rfl;rw [eT] at hKq;refine xL hKq (ws:=W8) Sl hlq (by decide) fun HB FB Sq Xj VJ=>⟨rfl,?_⟩;have Sq:RK HB H2.size FB ⟨R8.lay 19 0 W8,0,[],false,0,0,0⟩ jp:=Sq;rw [hRW] at Sq;have OH:aq HB ⟨H2.size,0,none⟩=some (QW sb):=by rw [VJ,cM fq (by simp) (eK Ua)];exact Ua
  obtain ⟨sb',FS,hcs,hS,hsubS,_,a2n⟩:=Sq.sp;have esb:sb'=sb:=by rw [OH] at hcs;simpa using hcs.symm
  subst esb;refine Aj hS fun HC Vw ZD=>⟨_,rfl,?_⟩;have pe:WFH (bL words oops):=Sq.wfs.h;have D7:((bL words oops).clsAt 19).2=0:=sH pe hz;have ecr:(SP.crown ⟨bL words oops,0,[],false,0,0,0⟩ 19)=(0,kQ words oops):=by
   unfold SP.crown;rw [a0a (by simpa using D7)];rfl
  rw [ecr] at Vw;obtain ⟨FC,Xk,huC⟩:=a2n HC FS _ Vw ⟨ZD,fun _ h=>.inl h⟩;have UK:=Up.fresh l7 ((SI.trans ((Up.of_nil fq).trans Xj)).trans huC) J3;exact h2 hz H2.size FC HC Xk UK.1 UK.2
end
end
section
attribute [local irreducible] bL cy cH iF fD iG gO gt iJ pu iy dp dA iE cg
section
variable {H0 H:au}{pb:Nat}{x:PSt}{Q:QT}
theorem AA {words oops:Int} (hk:eM H) (hN:gK H){R:Option Addr->Option Addr->Int->au->Prop}
  (gw:∀ e H',Fr [] H H'->R none none e H') (WX:∀ bp br Fp Fq H',BaseV (kQ words oops) jp jQ->PK H' bp Fp (kQ words oops) jp->RK H' br Fq (kQ words oops) jp->bU Fp Fq->Fr [] H H'->(∀ y∈Fp,H.size<=y)->(∀ y∈Fq,H.size<=y)->R (some ⟨bp,0,none⟩) (some ⟨br,0,none⟩) 0 H') :
  ag PP 23 #[ac words,ac oops] (fun v4 H1=>∃ p5:Option Addr,∃ n6:Int,v4=.tuple #[.pointer p5,ac n6]∧ag PP 38 #[ac words,ac oops] (fun v7 H2=>∃ p8:Option Addr,∃ n9:Int,v7=.tuple #[.pointer p8,ac n9]∧ag PP 24 #[ac n6] (fun v10 H3=>∃ n11:Int,v10=ac n11∧cond (n11 != n9) (Q (.bool false) H3) (cond (!((Option.isNone p5) == (Option.isNone p8))) (Q (.bool false) H3) (R p5 p8 n9 H3))) H2) H1) H:=by
 have bad:∀ (e:Int) (H2:au),Fr [] H H2->(∀ {Q':Value->au->Prop} (_:∀ H3,Fr [] H2 H3->Q' (.tuple #[.pointer none,ac e]) H3),ag PP 38 #[ac words,ac oops] Q' H2) ->
   ag PP 38 #[ac words,ac oops] (fun v7 H2=>∃ p8:Option Addr,∃ n9:Int,v7=.tuple #[.pointer p8,ac n9]∧ag PP 24 #[ac e] (fun v10 H3=>∃ n11:Int,v10=ac n11∧cond (n11 != n9) (Q (.bool false) H3) (cond (!((Option.isNone (none:Option Addr)) == (Option.isNone p8))) (Q (.bool false) H3) (R none p8 n9 H3))) H2) H2:=by
  intro e H2 F2 hR;refine hR fun H3 f3=>⟨_,_,rfl,jC ⟨_,rfl,?_⟩⟩;rw [bn,ae,a0a (fun hn=>hn rfl)];simp only [a0L,a3S,a0p,a0f];exact gw e H3 (F2.trans f3)
 refine KI hk (fun hb=>?_) (fun hg he H1 f1=>?_) fun hg hz b F H1 hP f1 hF=>?_
 ·refine ⟨_,_,rfl,bad 1 H (Fr.refl _ _) fun {Q'} hq=>x8 hN (fun _=>hq H (Fr.refl _ _)) (fun hg=>absurd hg hb) fun hg=>absurd hg hb⟩
 ·refine ⟨_,_,rfl,bad _ H1 f1 fun {Q'} hq=>x8 (hN.fr f1 (by simp)) (fun hb=>absurd hg hb) (fun _ _ H3 f3=>hq H3 f3) fun _ hz=>absurd hz he⟩
 ·refine ⟨_,_,rfl,x8 (hN.fr f1 (by simp)) (fun hb=>absurd hg hb) (fun _ he=>absurd hz he) fun _ _ b2 F2 H2 hR f2 D3=>⟨_,_,rfl,jC ⟨_,rfl,?_⟩⟩⟩;rw [bn,ae,a0a (fun hn=>hn rfl)];simp only [a0l,a3S,a0p,a0f];have hs:=f1.1;refine WX b b2 F F2 H2 (zK hg hz) (hP.nil f2) hR (fun y hy hm=>?_) (f1.trans f2) hF fun y hy=>?_
  ·have:=hP.lt y hy;have:=D3 y hm;omega
  ·have:=D3 y hy;omega
theorem zm {own:List ByteArray}{cs:Array Value} (hcs:cs=(bC own).toArray){n:Nat} (hn:n=own.length) (e:TypeId):bZ 1 (H.push (.cells cs e)) (some ⟨H.size,0,none⟩) n n (bC own) [H.size]:=by
 subst hcs hn;exact ⟨by simp [bC],a0U _,.inr ⟨_,_,rfl,rfl,bI.new _ _ _,by simp [bC],by simp [bC];exact a0Y (by simp)⟩⟩
theorem sZ (h:Twn H0 H pb x) (B:BaseV x.s x.t x.v) (Do:x.ws=[]) (hG:x.Gw=fun _=>False){name sup:ByteArray}{own:List ByteArray}{cs:Array Value} (hcs:cs=(bC own).toArray){n:Nat} (hn:n=own.length) (hn9:n<=9){e:TypeId}{R:Int->Int->Int->Int->au->Prop}
  (K:∀ c f H' y,Twn H0 H' pb y->BaseV y.s y.t y.v->y.ws=[]->y.Gw=(fun _=>False)->(c=0∨∃ cv∈y.v.cls,cv.oop=c)->y.bp=x.bp->y.br=x.br->R c f c f H') :
  ag PP 25 #[.pointer (some ⟨x.bp,0,none⟩),.string name,.string sup,.slice (some ⟨H.size,0,none⟩) n n] (fun v14 H4=>∃ n15:Int,∃ n16:Int,v14=.tuple #[ac n15,ac n16]∧ag PP 39 #[.pointer (some ⟨x.br,0,none⟩),.string name,.string sup,.slice (some ⟨H4.size,0,none⟩) n n] (fun v17 H5=>∃ n18:Int,∃ n19:Int,v17=.tuple #[ac n18,ac n19]∧R n15 n16 n18 n19 H5) (H4.push (.cells cs e))) (H.push (.cells cs e)):=by
 have f1:=Fr.push [] H (.cells cs e);have o1:=zm (H:=H) hcs hn e;have h1:=h.nil f1;have lp:=h.p.lt;have s8:x.s.stack.length<60000:=by rw [B.all.stack];decide
 refine Az h1.p h.all s8 o1.rd (.inr (bZ.out o1 fun y hy hm=>by rw [a0A.1 hy] at hm;exact a2B _ (lp _ hm))) (a0U _) (by omega) fun H4 Fp' hP4 u4=>⟨_,_,rfl,?_⟩;have Uh:=h1.r.fr u4.1 h.dpq.symm;have lq:=Uh.lt;have f5:=Fr.push [] H4 (.cells cs e);have o5:=zm (H:=H4) hcs hn e;refine Aa (Uh.nil f5) h.all s8 o5.rd (.inr (bZ.out o5 fun y hy hm=>by rw [a0A.1 hy] at hm;exact a2B _ (lq _ hm))) (by omega) fun H6 Fq' SA u6=>⟨_,_,rfl,?_⟩;obtain ⟨v',B',hc⟩:=zW B name sup own;have t6:=h1.kern hP4 u4 SA (eZ f5 u6) B'.all.w B'.uw ⟨B'.rest,B'.pair,B'.kern⟩ (fun w hw=>by rw [Do] at hw;cases hw);exact K _ _ H6 _ t6 B' Do rfl hc rfl rfl
theorem A4 {words oops:Int} (hk:eM H) (hN:gK H) (ht:iC H) (hB:bI H pb #[.pointer none,.pointer none,.slice none 0 0,.slice none 0 0]) (nb:H0.size<=pb) (f0:Fr [] H0 H) (gk:bl<H0.size) (gp:gP<H0.size)
  (Kno:∀ H',Fr [] H0 H'->aq H' ((⟨pb,0,none⟩:Addr).add 1)=some (.pointer none)->Q (.bool true) H')
  (K:∀ H' y,Twn H0 H' pb y->y.ws.length=10->Q (.bool true) H'):ag PP 18 #[QW pb,ac words,ac oops] Q H:=by
 have Ty:bd PP 30=some (1,8,some (ac 0)):=by kernel_rfl
 have Wl:=hB.lt;have VG:=f0.1;apply NM;dsimp only [aL,aP,aC,ah,ak,fN,fe,aX,ay,bc,ac,bf,Pf,bX,av,bm,aE,cD,am,aJ,bM,aO,ax,bj,aI];have wK:∀ {H3:au} (z1 z2:Value),Fr [] H H3->Wr H3 (⟨pb,0,none⟩:Addr)∧Wr (aQ H3 ⟨pb,0,none⟩ z1) ((⟨pb,0,none⟩:Addr).add 1)∧bI (aQ (aQ H3 ⟨pb,0,none⟩ z1) ((⟨pb,0,none⟩:Addr).add 1) z2) pb #[z1,z2,.slice none 0 0,.slice none 0 0]∧Fr [pb] H3 (aQ (aQ H3 ⟨pb,0,none⟩ z1) ((⟨pb,0,none⟩:Addr).add 1) z2):=fun {H3} z1 z2 f=>by
  have b3:=hB.fr f (by simp);have b4:bI (aQ H3 ⟨pb,0,none⟩ z1) pb #[z1,.pointer none,.slice none 0 0,.slice none 0 0]:=b3.set 0 z1;refine ⟨b3.wr (o:=0) (by simp),b4.wr (o:=1) (by simp),b4.set 1 z2,?_⟩;have g1:Fr [pb] H3 (aQ H3 ⟨pb,0,none⟩ z1):=Fr.set (by show pb∈[pb];simp);have g2:Fr [pb] (aQ H3 ⟨pb,0,none⟩ z1) (aQ (aQ H3 ⟨pb,0,none⟩ z1) ((⟨pb,0,none⟩:Addr).add 1) z2):=Fr.set (by rw [aB];show pb∈[pb];simp);exact g1.trans g2
 refine AA hk hN (R:=fun p5 p8 n9 H3=>_) (fun e H3 f3=>?_) fun bp br Fp Fq H3 B hP hR hd f3 l1 l2=>?_
 ·obtain ⟨w1,w2,b5,f5⟩:=wK (H3:=H3) (.pointer none) (.pointer none) f3;refine ⟨_,rfl,w1,_,rfl,w2,?_⟩;simp only [a0L,a0P];refine Kno _ ⟨a0O (a0O VG f3.1) f5.1,fun y hy _=>?_⟩ (b5.cell 1)
  have:=f3.1;rw [f5.2 y (by omega) (by simp;omega),f3.2 y (by omega) (by simp),f0.2 y hy (by simp)]
 obtain ⟨w1,w2,b5,f5⟩:=wK (H3:=H3) (QW bp) (QW br) f3;refine ⟨_,rfl,w1,_,rfl,w2,?_⟩;generalize (aQ (aQ H3 ⟨pb,0,none⟩ (QW bp)) ((⟨pb,0,none⟩:Addr).add 1) (QW br))=H5 at w2 b5 f5 ⊢;simp only [a0l,a0f];have VO:=f3.1;have np:pb∉Fp:=fun hm=>by have:=l1 _ hm;omega
 have nq:pb∉Fq:=fun hm=>by have:=l2 _ hm;omega
 have ne:∀ {F:aS},pb∉F->∀ y∈F,y∉[pb]:=fun hn y hy hm=>hn (a0A.1 hm ▸ hy);have t5:Twn H0 H5 pb ⟨bp,br,Fp,Fq,[],[],kQ words oops,jp,jQ,fun _=>False,none,0,0,[],none,0,0,[]⟩ :=
  { blk:=b5,ow:=bZ.nil 1 H5,ofl:=bZ.nil 1 H5,p:=hP.fr f5 (ne np) (fun hm=>by have:=a0A.1 hm;omega),r:=hR.fr f5 (ne nq),na:=by simp,nf:=by simp,np:=np,nq:=nq,daf:=bU.nil_left _,dap:=bU.nil_left _,daq:=bU.nil_left _,dfp:=bU.nil_left _,dfq:=bU.nil_left _,dpq:=hd,tab:=(ht.fr f3 (by simp)).fr f5 (fun hm=>by have:=a0A.1 hm;omega),gk:=gk,gp:=gp,nb:=nb,n1:=by simp,n2:=by simp,n3:=fun y hy=>by have:=l1 y hy;omega,n4:=fun y hy=>by have:=l2 y hy;omega,fr:=⟨a0O (a0O VG VO) f5.1,fun y hy _=>by rw [f5.2 y (by omega) (by simp;omega),f3.2 y (by omega) (by simp),f0.2 y hy (by simp)]⟩,all:=B.all.w,uw:=B.uw,kv:=⟨B.rest,B.pair,B.kern⟩,words:=by simp }
 refine sZ (e:=9) (own:=[⟨#[120]⟩,⟨#[121]⟩]) t5 B rfl rfl rfl rfl (by decide) fun c1 e1 H6 y6 t6 B6 ew6 eG6 XG eb6 er6=>?_;have k6:=fun R K=>sZ (e:=9) (own:=[⟨#[122]⟩]) (name:=⟨#[77,111,114,101]⟩) (sup:=⟨#[80,97,105,114]⟩) (cs:=#[.string ⟨#[122]⟩]) (n:=1) (R:=R) t6 B6 ew6 eG6 rfl rfl (by decide) K;rw [eb6,er6] at k6;refine k6 _ fun c2 e2 H7 y7 t7 B7 ew7 eG7 hc7 _ _=>?_;rw [bn,ae,a0a (fun hn=>hn rfl)];refine jC ⟨_,rfl,?_⟩;rw [bn,ae,a0a (fun hn=>hn rfl),bn,ae,a0a (fun hn=>hn rfl)];refine jC ⟨_,rfl,?_⟩;rw [bn,ae,a0a (fun hn=>hn rfl)];refine ce ⟨by decide,by decide⟩ ⟨_,rfl,?_⟩;obtain ⟨p4,p5,p6,p7,p8,p9,p10,p11,p12,_⟩:=B7.pair.pl;have f8:=Fr.push [] H7 (.cells (az [4,12,8,7,16,32,40,44,2,48]).toArray 26);have Oh:=bI.new H7 (az [4,12,8,7,16,32,40,44,2,48]).toArray 26;have wk9:∀ w∈([4,12,8,7,16,32,40,44,2]:List Int),WK y7.v y7.Gw w:=by
  intro w hw;simp only [a0E,a1l,a2h] at hw;rcases hw with rfl | rfl | rfl | rfl | rfl | rfl | rfl | rfl | rfl
  ·exact WK.nil
  ·exact WK.tw true
  ·exact WK.tw false
  ·exact WK.small (by decide)
  ·exact WK.cls (o:=4) p4
  ·exact WK.cls (o:=8) p8
  ·exact WK.cls (o:=10) p10
  ·exact WK.cls (o:=11) p11
  ·exact WK.small (by decide)
 refine ⟨fun w H'=>∃ a c G ws',w=[.slice a 10 c]∧bZ 1 H' a 10 c (az ws') G∧(∀ z∈ws',WK y7.v y7.Gw z)∧Fr [] H7 H'∧∀ y∈G,H7.size<=y,?_,?_⟩
 ·rw [bn,ae];refine aD (fun hd=>?_) fun hd=>?_
  ·obtain ⟨cv,hcv,ecv⟩:=hc7.resolve_left hd;obtain ⟨j,hj,rfl⟩:=a2X.1 hcv;have TL:=uQ B7 hj;rw [ecv] at TL;refine ⟨⟨by decide,by decide⟩,ce ⟨by omega,by omega⟩ ⟨_,rfl,trivial,trivial,?_⟩⟩;have o9:bZ 1 (H7.push (.cells (az [4,12,8,7,16,32,40,44,2,48]).toArray 26)) (some ⟨H7.size,0,none⟩) 9 10 (az [4,12,8,7,16,32,40,44,2]) [H7.size]:=⟨by simp [az],by decide,.inr ⟨_,_,rfl,rfl,Oh,by simp [az],by simp [az]⟩⟩;rw [show Int.toNat 9=9 from rfl];refine bK Ty rfl (by kernel_rfl) o9 rfl (by simp [dJ]) (by decide) (by decide) (by decide) fun a' c' G' H9 g1 g2 _=>⟨_,_,_,rfl,trivial,?_⟩;have o3:=Up.fresh f8 g2 (by simp);refine ⟨a',c',G',[4,12,8,7,16,32,40,44,2]++[4*c2],rfl,by rw [bR];exact g1,fun z hz=>?_,o3.1,o3.2⟩;rcases a0T.1 hz with hz | hz
   ·exact wk9 z hz
   ·rw [a0A.1 hz,←ecv];exact WK.cls (B7.all.ks.idx hj)
  ·refine ⟨_,_,[H7.size],[4,12,8,7,16,32,40,44,2,48],rfl,⟨by simp [az],a0U _,.inr ⟨_,_,rfl,rfl,Oh,by simp [az],by simp [az]⟩⟩,fun z hz=>?_,f8,by simp⟩
   have:z∈([4,12,8,7,16,32,40,44,2]:List Int)∨z=48:=by
    simp only [a0E,a1l,a2h] at hz ⊢;omega
   rcases this with hz | rfl
   ·exact wk9 z hz
   ·exact WK.cls (o:=12) p12
 rintro w H8 ⟨a8,c8,G8,ws8,rfl,o8,wk8,f78,V3⟩ _;have hl8:ws8.length=10:=by have:=o8.len;simpa [az] using this
 have t8:=t7.nil f78;have ld:∀ y∈y7.D pb,y<H7.size:=fun y hy=>by
  simp only [PSt.D,a0E,a0T] at hy;rcases hy with rfl | ((hy | hy) | hy) | hy
  ·exact t7.blk.lt
  ·exact t7.ow.lt y hy
  ·exact t7.ofl.lt y hy
  ·exact t7.p.lt y hy
  ·exact t7.r.lt y hy
 refine ⟨_,_,_,rfl,fun w H'=>∃(i:Nat) (z:PSt),w=[ac i]∧i<=10∧Twn H0 H' pb z∧z.ws=ws8.take i∧z.v=y7.v∧z.Gw=y7.Gw∧Up (y7.D pb) H8 (z.D pb) H',fun w _=>match w with
  | [.int _ i]=>((10:Int)-i).toNat
  | _=>0,⟨0,y7,rfl,a07 _,t8,by rw [ew7];rfl,rfl,rfl,Up.refl _ _⟩,?_⟩
 rintro w H9 ⟨i,z,rfl,hi,tz,ez,ev,eG,uz⟩ _;refine ⟨_,rfl,fZ (fun an=>?_) fun JR=>?_⟩
 ·have ui:i<ws8.length:=by omega
  have e1:IntKind.wrap .i64 ((i:Int)+1)=((i+1:Nat):Int):=by rw [ao (by omega) (by omega)];omega
  have o9:=o8.fr uz.1 (fun y hy hm=>by have:=V3 y hy;have:=ld y hm;omega);obtain ⟨q,Jf,AT,_⟩:=o9.rd.int (i:=(i:Int)) (by omega) (by omega);have eg:ws8.getD (i:Int).toNat 0=ws8[i]:=by rw [a0j,a1f,a0Q ui];rfl
  rw [eg] at AT;refine ⟨⟨by omega,an⟩,q,Jf,_,by rw [a0y];exact AT,rl tz (by rw [ez,a1q];omega) (by rw [ev,eG];exact wk8 _ (a04 ui)) fun H' x' t' ew' ev' eG' u'=>⟨rfl,?_⟩⟩;rw [e1];refine ⟨⟨i+1,x',rfl,by omega,t',?_,ev'.trans ev,eG'.trans eG,uz.trans u'⟩,by simp;omega⟩;rw [ew',ez,a1i,a0Q ui];rfl
 ·refine K _ z tz ?_;rw [ez,a1q];have hge':¬ (i:Int)<10:=JR;omega
theorem wA {words oops:Int}{a:Option Addr}{l c:Nat}{xs:List StepP} (hk:eM H) (hN:gK H) (ht:iC H) (hs:j0 H a l xs) (hl:l<=1048576):ag PP 5 #[ac words,ac oops,.slice a l c] (fun v H'=>v=.bool true∧Fr [] H H') H:=by
 have Od:=hk.lt;have TK:=ht.lt;apply Pw;dsimp only [aL,aP,bk,aC,ah,aX,ay,aK,aF,cX,bc,aZ,ac,bf,bX,av,bm,aE,cD,am,aJ,aO,ax,aI];have f0:=Fr.push [] H (.cells #[.pointer none,.pointer none,.slice none 0 0,.slice none 0 0] 52);have hB:=bI.new H #[.pointer none,.pointer none,.slice none 0 0,.slice none 0 0] 52;have SN:xs.length=l:=hs.1;refine A4 (H0:=H) (hk.fr f0 (by simp)) (hN.fr f0 (by simp)) (ht.fr f0 (by simp)) hB (a0U _) f0 Od TK (fun H1 f1 hc=>⟨_,rfl,?_⟩) fun H1 y t1 qz=>⟨_,rfl,?_⟩
 ·rw [a0p,a0f];refine ⟨_,rfl,_,hc,?_⟩;rw [a0L,a0P];exact ⟨rfl,f1⟩
 rw [a0p,a0f];refine ⟨_,rfl,_,t1.blk.cell 1,?_⟩;rw [a0l,a0f];refine ⟨fun w H'=>∃(i:Nat) (z:PSt),w=[ac i]∧i<=l∧Twn H H' H.size z∧wk z (10+201*i),fun w _=>match w with
  | [.int _ i]=>((l:Int)-i).toNat
  | _=>0,⟨0,y,rfl,a07 _,t1,by unfold wk;omega⟩,?_⟩
 rintro w H4 ⟨i,z,rfl,hi,tz,hc⟩ _;refine ⟨_,rfl,fZ (fun an=>?_) fun JR=>?_⟩
 ·have ui:i<xs.length:=by omega
  have e1:IntKind.wrap .i64 ((i:Int)+1)=((i+1:Nat):Int):=by rw [ao (by omega) (by omega)];omega
  obtain ⟨p,ST,a6,l6,c6,hcells,Sl,SF⟩:=hs.2 i xs[i] (a0Q ui);generalize xs[i]=sx at hcells Sl;have f4:=tz.fr;have cel:∀ j v,(sx.vals a6 l6 c6)[j]?=some v->aq H4 ((p.add (i*6)).add j)=some v:=fun j v hv=>kY f4 (hcells j v hv);have cel0:aq H4 (p.add (i*6))=some (ac sx.kind):=by
   have:=cel 0 _ rfl;rw [Addr.add_zero'] at this;exact this
  refine ⟨⟨by omega,an⟩,p,ST,_,by rw [a0j];exact cel0,_,by rw [a0j];exact cel 1 _ rfl,_,by rw [a0j];exact cel 2 _ rfl,_,by rw [a0j];exact cel 3 _ rfl,_,_,_,by rw [a0j];exact cel 4 _ rfl,_,by rw [a0j];exact cel 5 _ rfl,?_⟩;refine Kl tz hc (by omega) (Rd.nilF Sl f4) SF fun H5 z5 t5 c5=>⟨_,rfl,?_⟩;rw [a0p,a0f];refine vz t5 fun H6 f56=>⟨_,rfl,?_⟩;rw [a0p,a0f,e1];exact ⟨⟨i+1,z5,rfl,by omega,t5.nil f56,by have:=c5.1;have:=c5.2;unfold wk;omega⟩,by simp;omega⟩
 ·refine dW ⟨by decide,by decide⟩ ⟨_,rfl,dW ⟨by decide,by decide⟩ ⟨_,rfl,?_⟩⟩;have f5:=Fr.push [] H4 (.cells #[ac (2*4+1)] 26);have XI:bZ 1 (H4.push (.cells #[ac (2*4+1)] 26)) (some ⟨H4.size,0,none⟩) 1 1 (az [2*4+1]) [H4.size]:=⟨by simp [az],a0U _,.inr ⟨_,_,rfl,rfl,bI.new _ _ _,by simp,by simp [az]⟩⟩;obtain ⟨c1,c2⟩:=hc;refine jV (tz.nil f5) (by omega) XI.rd (by decide) (tz.young XI (by simp)) (fun w hw _=>?_) fun H6 z6 t6 _=>⟨_,rfl,?_⟩
  ·simp only [a0E,a1l,a2h] at hw;rcases hw with rfl | rfl
   ·exact qI 3
   ·exact qI 4
  ·rw [a0P];exact vz t6 fun H7 f67=>⟨_,rfl,rfl,t6.fr.trans f67⟩
end
end
end Go.Proofs.YtgjfejoohojokaaGreatDoor
