/- What is laid is read back; what is read is laid again just so. -/
import Derived.Test.YtcddnmhmcieebaaGreatDoorY12
import Derived.Test.YtcddnmhmcieebaaGreatDoorY15
namespace Go.Proofs.YtcddnmhmcieebaaGreatDoor
open Go.RowKit
set_option linter.unusedSimpArgs false
set_option linter.unusedVariables false
set_option linter.unnecessarySimpa false
namespace Dw
theorem Y4 {s:ByteArray} {pre post:List Nat} {n lo hi:Nat} (h:wl s=pre++r8 n++post) (hn:n<y5) (h1:lo<=n) (h2:n<=hi):cE s lo hi pre.length= .ok (n,pre.length+(r8 n).length):=by
 unfold cE
 rw [h,y2t hn]
 unfold eT dD
 simp only
 rw [if_neg sP,if_neg (by rw [if_neg (by omega)];simp)]
theorem y6q {s:ByteArray} {pre post:List Nat} {c:Nat} (h:wl s=pre++c::post):mA s pre.length= .ok (c,pre.length+1):=by
 have hl:=congrArg List.length h
 rw [l9] at hl
 simp only [List.length_append,List.length_cons] at hl
 have ha:=dQ (s:=s) (i:=pre.length) oM
 rw [h] at ha
 simp at ha
 have E6:¬ pre.length=s.size:=oM
 unfold mA eT N1
 simp [E6, <- ha]
theorem rA {s:ByteArray} {pre post:List Nat} {k:Nat} (h:wl s=pre++bN k::post):z3n s k pre.length= .ok (bN k,pre.length+1):=by
 have hl:=congrArg List.length h
 rw [l9] at hl
 simp only [List.length_append,List.length_cons] at hl
 have ha:=dQ (s:=s) (i:=pre.length) oM
 rw [h] at ha
 simp at ha
 have E6:¬ pre.length=s.size:=oM
 unfold z3n eT N1 vV
 simp [E6, <- ha]
def y1f (i:Nat) (a:r7):Prop:=uZ a/\0<=a.to/\a.to<(i:Int)
theorem R8 (a b:Nat):E4 [a,b]=r8 a++r8 b:=by simp [E4]
theorem aH (a:Nat):E4 [a]=r8 a:=by simp [E4]
theorem kT {s:ByteArray} {i:Nat} (hi:i<=1000000):∀ (l acc:List r7) (pre post:List Nat),wl s=pre++H6 i l++post->(∀ a∈l,y1f i a)->pArcs s i l.length pre.length acc= .ok (acc++l,pre.length+(H6 i l).length)
 | [],acc,pre,post,_,_=>by simp [pArcs,H6]
 | a::l,acc,pre,post,h,a8=>by
  obtain ⟨⟨ha,hao,_,_⟩,h0,h1⟩:=a8 a (List.mem_cons_self ..)
  have hsp:H6 i (a::l)=a.byte::(r8 a.out++(r8 (i-a.to.toNat)++H6 i l)):=by
   simp [H6,z8j,R8]
  rw [hsp] at h
  simp only [List.length_cons,pArcs]
  rw [y6q (c:=a.byte) (post:=r8 a.out++(r8 (i-a.to.toNat)++H6 i l)++post) (by rw [h];simp)]
  simp only
  rw [show pre.length+1=(pre++[a.byte]).length by simp,Y4 (n:=a.out) (post:=r8 (i-a.to.toNat)++H6 i l++post) (by rw [h];simp) (by unfold y5;omega) oM oM]
  simp only
  rw [show (pre++[a.byte]).length+(r8 a.out).length=(pre++[a.byte]++r8 a.out).length by simp;omega,Y4 (n:=i-a.to.toNat) (post:=H6 i l++post) (by rw [h];simp) (by unfold y5;omega) oM oM]
  simp only
  rw [show (pre++[a.byte]++r8 a.out).length+(r8 (i-a.to.toNat)).length=(pre++[a.byte]++r8 a.out++r8 (i-a.to.toNat)).length by simp;omega,kT hi l _ (pre++[a.byte]++r8 a.out++r8 (i-a.to.toNat)) post (by rw [h];simp) fun x hx=>a8 x (List.mem_cons_of_mem _ hx)]
  have he:(⟨a.byte,a.out,((i-(i-a.to.toNat):Nat):Int)⟩:r7)=a:=by
   have e1:((i-(i-a.to.toNat):Nat):Int)=a.to:=oM
   rw [e1]
  rw [he,hsp]
  simp
  omega
def y1e (i:Nat) (s:State):Prop:=J8 s/\s.a6.length<=256/\(s.final=false->s.out=0)/\∀ a∈s.a6,y1f i a
theorem z3f {s:ByteArray} {i:Nat} {st:State} (hi:i<=1000000) (h:y1e i st) (pre post:List Nat) (hw:wl s=pre++stB i st++post):T4 s i pre.length= .ok (st,pre.length+(stB i st).length):=by
 obtain ⟨⟨w6t,_,_⟩,hl,hz,ha⟩:=h
 unfold stB cD at hw |-
 unfold T4
 cases hf:st.final with
 | true =>
  rw [hf,if_pos rfl,R8] at hw
  rw [if_pos rfl,R8]
  rw [Y4 (n:=2*st.a6.length+1) (post:=r8 st.out++H6 i st.a6++post) (by rw [hw];simp) (by unfold y5;omega) oM oM]
  simp only
  unfold nX
  rw [if_pos (by omega),show pre.length+(r8 (2*st.a6.length+1)).length=(pre++r8 (2*st.a6.length+1)).length by simp,Y4 (n:=st.out) (post:=H6 i st.a6++post) (by rw [hw];simp) (by unfold y5;omega) oM oM]
  simp only
  rw [show (2*st.a6.length+1) / 2=st.a6.length by omega,show (pre++r8 (2*st.a6.length+1)).length+(r8 st.out).length=(pre++r8 (2*st.a6.length+1)++r8 st.out).length by simp;omega,kT hi st.a6 [] (pre++r8 (2*st.a6.length+1)++r8 st.out) post (by rw [hw];simp) ha]
  simp only [pMk,List.nil_append]
  rw [show decide ((2*st.a6.length+1)%2=1)=st.final by rw [hf];exact decide_eq_true oM]
  simp
  omega
 | false =>
  rw [hf,if_neg sP,aH] at hw
  rw [if_neg sP,aH]
  rw [Y4 (n:=2*st.a6.length) (post:=H6 i st.a6++post) (by rw [hw];simp) (by unfold y5;omega) oM oM]
  simp only
  unfold nX
  rw [if_neg (by omega)]
  simp only
  rw [show 2*st.a6.length / 2=st.a6.length by omega,show pre.length+(r8 (2*st.a6.length)).length=(pre++r8 (2*st.a6.length)).length by simp,kT hi st.a6 [] (pre++r8 (2*st.a6.length)) post (by rw [hw];simp) ha]
  simp only [pMk,List.nil_append]
  rw [show decide (2*st.a6.length%2=1)=st.final by rw [hf];exact decide_eq_false oM]
  have he:({ a6:=st.a6,final:=st.final,out:=0 }:State)=st:=by rw [<- hz hf]
  rw [he]
  simp
  omega
theorem mC {s:ByteArray}:∀ (l acc:List State) (i:Nat) (pre post:List Nat),i+l.length<=1000000->wl s=pre++statesB i l++post->(∀ k st,l[k]? =some st->y1e (i+k) st)->pStates s l.length i pre.length acc= .ok (acc++l,pre.length+(statesB i l).length)
 | [],acc,i,pre,post,_,_,_=>by simp [pStates,statesB]
 | st::l,acc,i,pre,post,hl,h,a8=>by
  simp only [List.length_cons] at hl
  simp only [statesB] at h
  simp only [List.length_cons,pStates]
  rw [z3f (i:=i) oM (a8 0 st rfl) pre (statesB (i+1) l++post) (by rw [h];simp)]
  simp only
  rw [show pre.length+(stB i st).length=(pre++stB i st).length by simp,mC l _ (i+1) (pre++stB i st) post oM (by rw [h];simp) fun k x hx=>by
   have h9:=a8 (k+1) x (by simpa using hx)
   rw [show i+1+k=i+(k+1) by omega]
   exact h9]
  simp [statesB]
  omega
theorem z3e {s:ByteArray} {post:List Nat} (h:wl s=[67,83,1]++post):pMagic s 3 0 0= .ok 3:=by
 simp only [pMagic]
 have h0:=rA (k:=0) (pre:=[]) (post:=[83,1]++post) (s:=s) (by rw [h];rfl)
 have h1:=rA (k:=0+1) (pre:=[67]) (post:=[1]++post) (s:=s) (by rw [h];rfl)
 have h2:=rA (k:=0+1+1) (pre:=[67,83]) (post:=post) (s:=s) (by rw [h];rfl)
 simp only [List.length_nil,List.length_cons] at h0 h1 h2
 simp only [h0,h1,h2]
theorem y6p {ss:List State} (a8:∀ s∈ss,J8 s) (hm:mayL 0 ss=true) {k:Nat} {st:State} (hk:ss[k]? =some st):y1e k st:=by
 have h1:=jS hm hk
 have h2:=a8 st (U0 hk)
 have h3:mayL k (ss.drop k)=true:=by
  have key:∀ (l:List State) (i k:Nat),mayL i l=true->mayL (i+k) (l.drop k)=true:=by
   intro l
   induction l with
   | nil=>intro i k _;simp [mayL]
   | cons a l ih =>
    intro i k h
    cases k with
    | zero=>simpa using h
    | succ k =>
     simp only [mayL,Bool.and_eq_true] at h
     have:=ih (i+1) k h.2
     simp only [List.drop_succ_cons]
     rw [show i+(k+1)=i+1+k by omega]
     exact this
  have:=key ss 0 k hm
  rwa [Nat.zero_add] at this
 rw [wA hk] at h3
 simp only [Bool.and_eq_true,decide_eq_true_eq,Bool.or_eq_true] at h3
 refine ⟨h2,h1.1,fun hf=> ?_,fun a ha=>⟨h2.2.2 a ha,by have:=h1.2 a ha;simpa using this⟩⟩
 rcases h3.1.1.2 with h4 | h4
 ·rw [hf] at h4;cases h4
 ·exact h4
theorem y1d {s:ByteArray} {en init:Nat} {ss:List State} (hen:en<=100000) (a8:∀ s∈ss,J8 s) (h0:0<ss.length) (hm:mayL 0 ss=true) (hl:ss.length<=1000000) (hi:init<y5) (h:wl s=N0 en init ss):pAll s= .ok (en,init,ss):=by
 unfold N0 at h
 rw [R8,aH] at h
 unfold pAll
 rw [z3e (post:=r8 en++r8 ss.length++statesB 0 ss++r8 init) (by rw [h];simp)]
 simp only
 rw [show (3:Nat)=([67,83,1]:List Nat).length from rfl,Y4 (pre:=([67,83,1]:List Nat)) (n:=en) (post:=r8 ss.length++statesB 0 ss++r8 init) (by rw [h];simp) (by unfold y5;omega) oM oM]
 simp only
 rw [show ([67,83,1]:List Nat).length+(r8 en).length=(([67,83,1]:List Nat)++r8 en).length by simp;omega,Y4 (n:=ss.length) (post:=statesB 0 ss++r8 init) (by rw [h];simp) (by unfold y5;omega) oM oM]
 simp only
 rw [show (([67,83,1]:List Nat)++r8 en).length+(r8 ss.length).length=(([67,83,1]:List Nat)++r8 en++r8 ss.length).length by simp;omega,mC ss [] 0 (([67,83,1]:List Nat)++r8 en++r8 ss.length) (r8 init) oM (by rw [h];simp) fun k st hk=>by rw [Nat.zero_add];exact y6p a8 hm hk]
 simp only
 rw [show (([67,83,1]:List Nat)++r8 en++r8 ss.length).length+(statesB 0 ss).length=(([67,83,1]:List Nat)++r8 en++r8 ss.length++statesB 0 ss).length by simp;omega,Y4 (n:=init) (post:=[]) (by rw [h];simp) hi oM (by unfold y5 at hi;omega)]
 simp only
 have F7:=congrArg List.length h
 rw [l9] at F7
 rw [if_neg (by rw [F7];simp;omega),List.nil_append]
/-! the other o6 round -/
theorem W8 {s:ByteArray} {lo hi p n j:Nat} (h:cE s lo hi p= .ok (n,j)):n<y5/\lo<=n/\n<=hi/\(wl s).drop p=r8 n++(wl s).drop j:=by
 have h1:=F5 h
 have h2:=qH (dR s) h1.2.2.2.2.2
 exact ⟨h2.1,h1.2.2.2.1,h1.2.2.2.2.1,h2.2.1⟩
theorem z3d {s:ByteArray} {p c j:Nat} (hp:p<=s.size) (h:mA s p= .ok (c,j)):(wl s).drop p=c::(wl s).drop j:=by
 have h1:=jT hp h
 rw [X5 h1.2.2.2,h1.1]
theorem iP {s:ByteArray} {i:Nat}:∀ {k p:Nat} {acc l:List r7} {j:Nat},p<=s.size->pArcs s i k p acc= .ok (l,j)->∃ l',l=acc++l'/\l'.length=k/\p<=j/\j<=s.size/\(wl s).drop p=H6 i l'++(wl s).drop j
 | 0,p,acc,l,j,hp,h=>by
  simp only [pArcs] at h
  injection h with h
  injection h with h1 h2
  subst h1;subst h2
  exact ⟨[],sP,rfl,nR,hp,by simp [H6]⟩
 | k+1,p,acc,l,j,hp,h=>by
  simp only [pArcs] at h
  split at h
  ·cases h
  ·rename_i c p1 hc
   have k1:=jT hp hc
   have b1:=z3d hp hc
   split at h
   ·cases h
   ·rename_i o p2 ho
    have k2:=F5 ho
    have b2:=W8 ho
    split at h
    ·cases h
    ·rename_i d p3 hd
     have k3:=F5 hd
     have b3:=W8 hd
     obtain ⟨l',h5,h4,h7,h8,h6⟩:=iP k3.2.1 h
     refine ⟨⟨c,o,((i-d:Nat):Int)⟩::l',by rw [h5];simp,by simp [h4],oM,h8,?_⟩
     rw [b1,b2.2.2.2,b3.2.2.2,h6]
     simp only [H6,List.flatMap_cons,z8j,R8]
     rw [show i-((i-d:Nat):Int).toNat=d by have:=b3.2.1;have:=b3.2.2.1;omega]
     simp
theorem mD {s:ByteArray} {i p j:Nat} {st:State} (h:T4 s i p= .ok (st,j)):p<j/\j<=s.size/\(wl s).drop p=stB i st++(wl s).drop j:=by
 unfold T4 at h
 split at h
 ·cases h
 ·rename_i n p1 hn
  have k1:=F5 hn
  have b1:=W8 hn
  split at h
  ·cases h
  ·rename_i o p2 ho
   cases hl:pArcs s i (n / 2) p2 [] with
   | error b=>rw [hl] at h;cases h
   | ok x =>
    obtain ⟨l,p3⟩:=x
    rw [hl] at h
    simp only [pMk] at h
    injection h with h
    injection h with h1 h2
    subst h1;subst h2
    unfold nX at ho
    unfold stB cD
    simp only
    split at ho
    ·rename_i h1
     have k2:=F5 ho
     have b2:=W8 ho
     obtain ⟨l',h5,h3,h8,h9,h6⟩:=iP k2.2.1 hl
     rw [List.nil_append] at h5
     subst h5
     refine ⟨oM,h9,?_⟩
     rw [if_pos (decide_eq_true h1),R8,b1.2.2.2,b2.2.2.2,h6,show 2*l.length+1=n by omega]
     simp
    ·rename_i h1
     injection ho with ho
     injection ho with h7 h8
     subst h7;subst h8
     obtain ⟨l',h5,h3,h8,h9,h6⟩:=iP k1.2.1 hl
     rw [List.nil_append] at h5
     subst h5
     refine ⟨oM,h9,?_⟩
     rw [if_neg (by simpa using h1),aH,b1.2.2.2,h6,show 2*l.length=n by omega]
     simp
theorem mE {s:ByteArray}:∀ {k i p:Nat} {acc l:List State} {j:Nat},p<=s.size->pStates s k i p acc= .ok (l,j)->p+k<=s.size
 | 0,i,p,acc,l,j,hp,h=>hp
 | k+1,i,p,acc,l,j,hp,h=>by
  simp only [pStates] at h
  split at h
  ·cases h
  ·rename_i st p1 hs
   have b1:=mD hs
   have:=mE b1.2.1 h
   omega
theorem jV {s:ByteArray}:∀ {k i p:Nat} {acc l:List State} {j:Nat},i+k<=1000000000->p<=s.size->pStates s k i p acc= .ok (l,j)->∃ l',l=acc++l'/\l'.length=k/\p+k<=j/\j<=s.size/\(wl s).drop p=statesB i l'++(wl s).drop j/\∀ m st,l'[m]? =some st->y1e (i+m) st
 | 0,i,p,acc,l,j,_,hp,h=>by
  simp only [pStates] at h
  injection h with h
  injection h with h1 h2
  subst h1;subst h2
  exact ⟨[],sP,rfl,oM,hp,by simp [statesB],fun m st hm=>by simp at hm⟩
 | k+1,i,p,acc,l,j,hik,hp,h=>by
  simp only [pStates] at h
  split at h
  ·cases h
  ·rename_i st p1 hs
   have k1:=vY oM hs
   have b1:=mD hs
   obtain ⟨l',h5,h6,h7,h8,h9,h10⟩:=jV oM k1.2.1 h
   refine ⟨st::l',by rw [h5];simp,by simp [h6],oM,h8,by rw [b1.2.2,h9];simp [statesB],fun m x hm=> ?_⟩
   cases m with
   | zero =>
    simp at hm
    subst hm
    exact ⟨k1.2.2.1,k1.2.2.2.1,k1.2.2.2.2.2,fun a ha=>⟨k1.2.2.1.2.2 a ha,k1.2.2.2.2.1 a ha⟩⟩
   | succ m =>
    have:=h10 m x (by simpa using hm)
    rw [show i+(m+1)=i+1+m by omega]
    exact this
theorem wB:∀ (l:List State) (i:Nat),(∀ k st,l[k]? =some st->y1e (i+k) st)->mayL i l=true
 | [],_,_=>rfl
 | st::l,i,h=>by
  obtain ⟨_,h1,h2,h3⟩:=h 0 st rfl
  have h4:=wB l (i+1) fun k x hx=>by
   have h9:=h (k+1) x (by simpa using hx)
   rw [show i+1+k=i+(k+1) by omega]
   exact h9
  have key:∀ l:List r7,(∀ a∈l,y1f (i+0) a)->okTo i l=true:=by
   intro l
   induction l with
   | nil=>intro _;rfl
   | cons a l ih =>
    intro h
    have h5:=h a (List.mem_cons_self ..)
    simp only [okTo,Bool.and_eq_true,decide_eq_true_eq]
    exact ⟨h5.2,ih fun x hx=>h x (List.mem_cons_of_mem _ hx)⟩
  simp only [mayL,Bool.and_eq_true,decide_eq_true_eq,Bool.or_eq_true]
  refine ⟨⟨⟨h1,?_⟩,key _ h3⟩,h4⟩
  cases hf:st.final with
  | true=>exact .inl rfl
  | false=>exact .inr (h2 hf)
theorem z7v {s:ByteArray} {p:Nat} (h:pMagic s 3 0 0= .ok p):p=3/\wl s=[67,83,1]++(wl s).drop 3/\3<=s.size:=by
 simp only [pMagic] at h
 split at h
 ·cases h
 ·rename_i x0 p1 h0
  have k0:=oU (Nat.zero_le _) h0
  split at h
  ·cases h
  ·rename_i x1 p2 h1
   have k1:=oU k0.2.1 h1
   split at h
   ·cases h
   ·rename_i x2 p3 h2
    have k2:=oU k1.2.1 h2
    injection h with h
    have e1:p1=1:=oM
    have e2:p2=2:=oM
    subst e1;subst e2
    refine ⟨oM,?_,oM⟩
    have d0:=X5 k0.2.2
    have d1:=X5 k1.2.2
    have d2:=X5 k2.2.2
    rw [List.drop_zero] at d0
    rw [d0,d1,d2]
    rfl
theorem y6o {s:ByteArray} (F7:s.size<=900000000) {en init:Nat} {ss:List State} (h:pAll s= .ok (en,init,ss)):wl s=N0 en init ss/\en<=100000/\0<ss.length/\(∀ st∈ss,J8 st)/\mayL 0 ss=true/\init<y5/\ss.length<=s.size:=by
 unfold pAll at h
 split at h
 ·cases h
 ·rename_i p0 hm
  obtain ⟨rfl,b0,h3⟩:=z7v hm
  split at h
  ·cases h
  ·rename_i en' p1 h1
   have k1:=F5 h1
   have b1:=W8 h1
   split at h
   ·cases h
   ·rename_i n p2 h2
    have k2:=F5 h2
    have b2:=W8 h2
    split at h
    ·cases h
    ·rename_i zQ p3 h4
     have hn:n<=900000000:=by
      have:=mE k2.2.1 h4
      omega
     obtain ⟨l',h5,h6,h7,h8,h9,h10⟩:=jV oM k2.2.1 h4
     rw [List.nil_append] at h5
     subst h5
     split at h
     ·cases h
     ·rename_i init' p4 hi
      have k5:=F5 hi
      have b5:=W8 hi
      split at h
      ·cases h
      ·rename_i hend
       injection h with h
       injection h with e1 e2
       injection e2 with e2 e3
       subst e1;subst e2;subst e3
       have hd:(wl s).drop p4=[]:=List.drop_eq_nil_of_le (by rw [l9];omega)
       refine ⟨?_,b1.2.2.1,oM,fun st y8=> ?_,wB _ 0 h10,b5.1,oM⟩
       ·unfold N0
        rw [R8,aH,b0,b1.2.2.2,b2.2.2.2,h9,b5.2.2.2,hd,h6]
        simp
       ·obtain ⟨m,fU⟩:=List.mem_iff_getElem?.1 y8
        exact (h10 m st fU).1
theorem z3c (l:List Nat):openR (some l)=(bl l,true):=rfl
theorem y6n (s:ByteArray):Q0 (bl (Crc.D2 (wl s)))=pAll s:=by
 have hs:Small (Crc.D2 (wl s)):=by
  intro x hx
  rcases List.mem_append.1 hx with h | h
  ·exact dR s x h
  ·simp [Crc.four] at h;omega
 unfold Q0
 rw [cB hs,Crc.z8n,z3c,z0e]
 rfl
theorem fM {w W:World} {A:Array Value} {t:TypeId} (h:w.alloc (.cells A t)=W):Below w.heap.size w W/\(∀ j u,A.toList[j]? =some u->W.cell? ⟨w.heap.size,0+j,none⟩=some u)/\W.heap.size=w.heap.size+1:=by
 subst h
 refine ⟨(Below.refl _ _).alloc nR _,fun j u hu=> ?_,sP⟩
 rw [Nat.zero_add,cell_of_row _ _ j _ t (0,0) (heap_alloc_new w _)]
 simpa using hu
theorem RA.lit {w W:World} {A:Array Value} {t:TypeId} (h:w.alloc (.cells A t)=W) (l:List r7) (hA:A.toList=nG l):Below w.heap.size w W/\RA W (fun _=>True) (.slice (some ⟨w.heap.size,0,none⟩) l.length l.length) l:=by
 obtain ⟨h1,h2,_⟩:=fM h
 exact ⟨h1,_,_,rfl,nR,fun _=>⟨_,_,rfl,trivial,fun j u hu=>h2 j u (by rw [hA];exact hu)⟩⟩
theorem RS.lit {w W:World} {A:Array Value} {t:TypeId} (h:w.alloc (.cells A t)=W) (l:List (Value×State)) (hA:A.toList=lN l) (hr:∀ x∈l,RA w (fun _=>True) x.1 x.2.a6):Below w.heap.size w W/\RS W (.slice (some ⟨w.heap.size,0,none⟩) l.length l.length) (l.map Prod.snd):=by
 obtain ⟨h1,h2,_⟩:=fM h
 refine ⟨h1,some ⟨w.heap.size,0,none⟩,l.length,by rw [List.length_map],by rw [List.length_map];exact nR,fun _=>⟨_,_,rfl,fun i s hi=> ?_⟩⟩
 rw [List.getElem?_map] at hi
 obtain ⟨x,hx,rfl⟩:=Option.map_eq_some_iff.1 hi
 obtain ⟨n8,rfl⟩:=E2 hx
 have k:∀ j,j<3->∀ u,([(l[i]).1,.bool (l[i]).2.final,.int .u64 (l[i]).2.out]:List Value)[j]? =some u->W.cell? ⟨w.heap.size,0+(i*3+j),none⟩=some u:=fun j hj u hu=>h2 _ _ (by rw [hA,oT l i j n8 hj];exact hu)
 exact ⟨(l[i]).1,by have:=k 0 oM _ rfl;simpa using this,by have:=k 1 oM _ rfl;simpa [Nat.add_assoc] using this,by have:=k 2 oM _ rfl;simpa [Nat.add_assoc] using this,(hr _ (List.getElem_mem n8)).later h1⟩
def RF (w:World) (v:Value) (l:List Fst):Prop:=∃ (A:Option Addr) (c:Nat),v= .slice A l.length c/\l.length<=c/\(0<l.length->∃ b off,A=some ⟨b,off,none⟩/\∀ (i:Nat) (x:Fst),l[i]? =some x->∃ sv,w.cell? ⟨b,off+i*2,none⟩=some sv/\w.cell? ⟨b,off+i*2+1,none⟩=some (.int .u64 x.init)/\RS w sv x.l3)
theorem RF.later {w w':World} {v:Value} {l:List Fst} (h:RF w v l) (hb:Below w.heap.size w w'):RF w' v l:=by
 obtain ⟨A,c,h1,h2,h3⟩:=h
 refine ⟨A,c,h1,h2,fun h0=> ?_⟩
 obtain ⟨b,off,h4,h5⟩:=h3 h0
 exact ⟨b,off,h4,fun i x hi=>by obtain ⟨sv,h6,h7,h8⟩:=h5 i x hi;exact ⟨sv,cL hb h6,cL hb h7,h8.later hb⟩⟩
theorem RF.at_ {w:World} {A:Option Addr} {n c:Nat} {l:List Fst} (h:RF w (.slice A n c) l) {i:Nat} {x:Fst} (hi:l[i]? =some x):∃ b off sv,A=some ⟨b,off,none⟩/\w.cell? ⟨b,off+i*2,none⟩=some sv/\w.cell? ⟨b,off+i*2+1,none⟩=some (.int .u64 x.init)/\RS w sv x.l3:=by
 obtain ⟨A',c',h1,h2,h3⟩:=h
 injection h1 with h1
 have h0:=(E2 hi).1
 obtain ⟨b,off,h4,h5⟩:=h3 oM
 obtain ⟨sv,h6⟩:=h5 i x hi
 exact ⟨b,off,sv,h1.trans h4,h6⟩
def fcs (l:List (Value×Fst)):List Value:=l.flatMap fun x=>[x.1,.int .u64 x.2.init]
theorem x3q (l:List (Value×Fst)) (i j:Nat) (hi:i<l.length) (hj:j<2):(fcs l)[i*2+j]? =([(l[i]).1,.int .u64 (l[i]).2.init]:List Value)[j]? :=by
 induction l generalizing i with
 | nil=>simp at hi
 | cons e l ih =>
  simp only [fcs,List.flatMap_cons]
  cases i with
  | zero=>rw [List.getElem?_append_left sO];simp
  | succ i =>
   rw [List.getElem?_append_right sO]
   have:=ih i (by simpa using hi)
   simp only [fcs] at this
   simp only [List.getElem_cons_succ]
   rw [<- this];congr 1;simp;omega
theorem RF.lit {w W:World} {A:Array Value} {t:TypeId} (h:w.alloc (.cells A t)=W) (l:List (Value×Fst)) (hA:A.toList=fcs l) (hr:∀ x∈l,RS w x.1 x.2.l3):Below w.heap.size w W/\RF W (.slice (some ⟨w.heap.size,0,none⟩) l.length l.length) (l.map Prod.snd):=by
 obtain ⟨h1,h2,_⟩:=fM h
 refine ⟨h1,some ⟨w.heap.size,0,none⟩,l.length,by rw [List.length_map],by rw [List.length_map];exact nR,fun _=>⟨_,_,rfl,fun i s hi=> ?_⟩⟩
 rw [List.getElem?_map] at hi
 obtain ⟨x,hx,rfl⟩:=Option.map_eq_some_iff.1 hi
 obtain ⟨n8,rfl⟩:=E2 hx
 have k:∀ j,j<2->∀ u,([(l[i]).1,.int .u64 (l[i]).2.init]:List Value)[j]? =some u->W.cell? ⟨w.heap.size,0+(i*2+j),none⟩=some u:=fun j hj u hu=>h2 _ _ (by rw [hA,x3q l i j n8 hj];exact hu)
 exact ⟨(l[i]).1,by have:=k 0 oM _ rfl;simpa using this,by have:=k 1 oM _ rfl;simpa [Nat.add_assoc] using this,(hr _ (List.getElem_mem n8)).later h1⟩
def v4x (a:r7):Bool:=decide (a.byte<256)&&decide (a.out<18446744073709551616)&&decide (-9223372036854775808<=a.to)&&decide (a.to<9223372036854775808)
def x3p (s:State):Bool:=decide (s.out<18446744073709551616)&&decide (s.a6.length<1000)&&s.a6.all v4x
theorem x5l (l:List State) (h:l.all x3p=true):∀ s∈l,J8 s:=by
 intro s hs
 have:=List.all_eq_true.1 h s hs
 simp only [x3p,Bool.and_eq_true,decide_eq_true_eq] at this
 refine ⟨this.1.1,by have:=this.1.2;omega,fun a ha=> ?_⟩
 have h2:=List.all_eq_true.1 this.2 a ha
 simp only [v4x,Bool.and_eq_true,decide_eq_true_eq] at h2
 exact ⟨h2.1.1.1,h2.1.1.2,h2.1.2,h2.2⟩
theorem x5h (l:List State) (h:l.all x3p=true):∀ s∈l,s.a6.length<=1000:=by
 intro s hs
 have:=List.all_eq_true.1 h s hs
 simp only [x3p,Bool.and_eq_true,decide_eq_true_eq] at this
 omega
theorem y7w:(Tryz.prog.info? 71).map (fun i=>(i.zero,i.size,i.bytes))=some (some (.agg #[.int .u8 0,.int .u64 0,.int .i64 0]),3,24):=kR
theorem jW {en init:Nat} {ss:List State} (a8:∀ s∈ss,J8 s) (hm:mayL 0 ss=true) (hl:ss.length<=100000) (hen:en<=100000) (hi:init<y5):Small (N0 en init ss):=lZ a8 hm hl hen hi
theorem y6m {en init:Nat} {ss:List State} (hen:en<=100000) (a8:∀ s∈ss,J8 s) (h0:0<ss.length) (hm:mayL 0 ss=true) (hl:ss.length<=100000) (hi:init<y5):Q0 (bl (Crc.D2 (N0 en init ss)))= .ok (en,init,ss):=by
 have hs:=jW a8 hm hl hen hi
 have h1:=y6n (bl (N0 en init ss))
 rw [cB hs] at h1
 rw [h1]
 exact y1d hen a8 h0 hm oM hi (cB hs)
theorem pW {en:Int} {init:Nat} {ss:List State} (h:P1 en ss=true) (a8:∀ s∈ss,J8 s) (hl:ss.length<=100000) (hi:init<y5):Q0 (bl (putR en init ss).1)= .ok (en.toNat,init,ss):=by
 obtain ⟨h1,h2,h3,h4⟩:=oS h
 unfold putR
 rw [if_pos h]
 exact y6m oM a8 h3 h4 hl hi
theorem wC {y:ByteArray} (F7:y.size<=900000000) {en init:Nat} {ss:List State} (h:Q0 y= .ok (en,init,ss)):P1 (en:Int) ss=true/\(∀ s∈ss,J8 s)/\init<y5/\ss.length<=y.size/\y=bl (putR (en:Int) init ss).1:=by
 unfold Q0 at h
 cases ho:Crc.opened (wl y) with
 | none=>rw [ho] at h;simp [openR] at h
 | some b =>
  have h1:=Crc.lY ho
  have Z7:Small b:=fun x hx=>dR y x (by rw [h1];exact List.mem_append_left _ hx)
  have hlen:=congrArg List.length h1
  rw [l9,Crc.R6] at hlen
  rw [ho] at h
  have h2:pAll (bl b)= .ok (en,init,ss):=by simpa [openR] using h
  have h3:=y6o (by rw [X4];omega) h2
  rw [cB Z7,X4] at h3
  have hm:P1 (en:Int) ss=true:=by
   unfold P1
   rw [decide_eq_true (show (0:Int)<=en by omega),decide_eq_true (show (en:Int)<=100000 by have:=h3.2.1;omega),decide_eq_true h3.2.2.1,h3.2.2.2.2.1]
   rfl
  refine ⟨hm,h3.2.2.2.1,h3.2.2.2.2.2.1,by have:=h3.2.2.2.2.2.2;omega,?_⟩
  unfold putR
  rw [if_pos hm,Int.toNat_natCast, <- h3.1, <- h1,z0e]
end Dw
end Go.Proofs.YtcddnmhmcieebaaGreatDoor
