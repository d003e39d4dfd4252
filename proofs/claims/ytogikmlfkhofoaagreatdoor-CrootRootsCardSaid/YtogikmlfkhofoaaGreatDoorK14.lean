/- My texts AIquart2, AIquart3, AIcutv, AIquart4, AIwd0, AIwd1, AIspecA, AIspecB, AVphase, AIphase1, AIred0, AIcr0, AIcr1, AIcr2, in one. -/
import Derived.Test.YtogikmlfkhofoaaGreatDoorK13
open BitVec renaming ofInt→A7,ofInt_natCast→R7,toNat_and→JH,toNat_ofNat→U7
open Bool renaming false_eq_true→J7
open Decidable renaming byContradiction→G8
open Int renaming add_mul→BG,le_refl→u9,mul_add→MN,mul_assoc→AU,mul_comm→v9,natAbs_natCast→S7,natCast_mul→L5,neg_mul→AH,pow_add→MP,toNat_natCast→A2
open Nat renaming add_mul→H2,div_mul_le_self→JM,eq_of_mul_eq_mul_right→MS,le_div_iff_mul_le→K8,le_refl→I6,le_trans→D9,lt_of_lt_of_le→G7,lt_or_ge→L4,mod_eq_of_lt→F9,mul_add→D0,mul_assoc→B9,mul_comm→B6,mul_le_mul→I7,mul_le_mul_left→F2,mul_le_mul_right→C0,mul_left_comm→M9,mul_lt_mul_of_lt_of_lt→K3,mul_lt_mul_of_pos_right→L3,mul_mul_mul_comm→F7,mul_ne_zero→X0,mul_one→M0,mul_pos→U9,mul_right_comm→BX,one_mul→Q2,pos_iff_ne_zero→R6,pow_add→B8,pow_le_pow_right→B3,pow_lt_pow_right→N4,pow_succ→I5,pow_zero→AY,testBit_lt_two_pow→CP,testBit_two_pow_of_ne→DX,testBit_two_pow_self→IU,two_pow_pos→A9
namespace Go.Dy
theorem QY {a b:Dyd} {u:Int} (ha:u≤a.exp) (hb:u≤b.exp):Y1 a b=0 ↔ at_ a u=at_ b u:=by
 rw [A7p ha hb]
 unfold U2
 constructor
 ·intro h
  split at h
  ·exact absurd h (by decide)
  ·split at h
   ·exact absurd h (by decide)
   ·omega
 ·intro h
  rw [if_neg (by omega),if_neg (by omega)]
end Go.Dy

namespace Go.Dy
end Go.Dy

namespace Go.Dy
theorem D2l {s:Bool} {m:List Nat} {e b u:Int} (hd:A5 ⟨s,m,e⟩=true) (hb:1≤b) (hu:u≤e):
  at_ (F6 ⟨s,m,e⟩ b).1 u=sgn s (val m/2^((bl (val m):Int)-b).toNat*2^(((bl (val m):Int)-b).toNat+(e-u).toNat)):=by
 have h:=r8 s (val m) e b hb
 rw [A69 hd] at h
 rw [h]
 show at_ (form s _ _) u=_
 rw [KK (by omega)]
 congr 2
 rw [show (e+(((bl (val m):Int)-b).toNat:Int)-u).toNat=((bl (val m):Int)-b).toNat+(e-u).toNat by omega]
def DR (X:Nat) (b:Nat):Nat:=X/2^(bl X-b)*2^(bl X-b)
theorem B8n (X b k:Nat):DR (X*2^k) b=DR X b*2^k:=by
 unfold DR
 by_cases h:X=0
 ·subst h;simp
 ·rw [E7 h]
  by_cases c:b≤bl X
  ·rw [show bl X+k-b=(bl X-b)+k by omega,B8,←B9]
   congr 2
   rw [B6 (2^(bl X-b)),←Nat.div_div_eq_div_mul,Nat.mul_div_cancel _ (A9 k)]
  ·rw [show bl X-b=0 by omega,AY,Nat.div_one,M0]
   have h1:(X*2^k)%2^(bl X+k-b)=0:=by
    rw [show k=(bl X+k-b)+(k-(bl X+k-b)) by omega,B8,M9,show (bl X+k-b)+(k-(bl X+k-b))=k by omega]
    exact Nat.mul_mod_right _ _
   exact Nat.div_mul_cancel (Nat.dvd_of_mod_eq_zero h1)
theorem C3w (X:Nat) {b:Nat} (hb:1≤b):bl (DR X b)=bl X:=by
 by_cases h:X=0
 ·subst h;simp [DR,K2]
 ·unfold DR
  have hq:X/2^(bl X-b)≠0:=fun e=>by
   have h1:=C5 X (bl X-b)
   have h2:=IV.2 h
   rw [e,K2] at h1
   omega
  rw [E7 hq,C5]
  omega
theorem SK {X Y Z b:Nat} (hb:1≤b) (h1:X≤Y) (h2:Y≤Z) (h:DR X b=DR Z b):DR Y b=DR X b:=by
 have e:bl X=bl Z:=by rw [←C3w X hb,←C3w Z hb,h]
 have hy:bl Y=bl X:=by
  have:=K1 h1
  have:=K1 h2
  omega
 have a1:=Nat.div_le_div_right (c:=2^(bl X-b)) h1
 have a2:=Nat.div_le_div_right (c:=2^(bl X-b)) h2
 unfold DR at h ⊢
 rw [←e] at h
 rw [hy]
 have h3:=MS (A9 _) h
 have:Y/2^(bl X-b)=X/2^(bl X-b):=by omega
 rw [this]
theorem C5b {X Z b:Nat} (h1:X≤Z) (hl:bl X=bl Z) (h:∀D,¬(X<D*2^(bl Z-b)∧D*2^(bl Z-b)≤Z)):DR X b=DR Z b:=by
 unfold DR
 rw [hl]
 have a:=Nat.div_le_div_right (c:=2^(bl Z-b)) h1
 have b1:=JM Z (2^(bl Z-b))
 rcases L4 X (Z/2^(bl Z-b)*2^(bl Z-b)) with c|c
 ·exact absurd ⟨c,b1⟩ (h _)
 ·have:Z/2^(bl Z-b)≤X/2^(bl Z-b):=(K8 (A9 _)).2 c
  have:X/2^(bl Z-b)=Z/2^(bl Z-b):=by omega
  rw [this]
theorem C5c {s:Bool} {m:List Nat} {e u:Int} {b:Nat} (hd:A5 ⟨s,m,e⟩=true) (hb:1≤b) (hu:u≤e):
  at_ (F6 ⟨s,m,e⟩ b).1 u=sgn s (DR (val m*2^(e-u).toNat) b):=by
 rw [D2l hd (by omega) hu,B8n]
 unfold DR
 rw [show ((bl (val m):Int)-(b:Int)).toNat=bl (val m)-b by omega,B8,B9]
end Go.Dy

namespace Go.Dy
def D63 (X P k:Int):Prop:=2*(k*P)≤2*X+P∧2*X+P<2*(k*P)+2*P
theorem D63.eq {X P k:Int} (hP:0<P) (h:D63 X P k):C99 X P=k:=C9a hP h.1 h.2
def W0 (z:Int) (b:Nat):Int:=sgn (decide (z<0)) (DR z.natAbs b)
theorem NH (z:Int) (b:Nat):W0 (-z) b= -W0 z b:=by
 unfold W0
 rw [Int.natAbs_neg]
 by_cases c:z=0
 ·subst c
  have:DR (0:Int).natAbs b=0:=by unfold DR;simp
  rw [this]
  rfl
 ·unfold sgn
  rcases Int.lt_or_gt_of_ne c with h|h
  ·rw [decide_eq_true h,decide_eq_false (by omega)]
   simp
  ·rw [decide_eq_false (by omega:¬z<0),decide_eq_true (by omega)]
   simp
theorem B2b {d:Dyd} {u:Int} {b:Nat} (hd:A5 d=true) (hb:1≤b) (hu:u≤d.exp):at_ (F6 d b).1 u=W0 (at_ d u) b:=by
 obtain ⟨s,m,e⟩:=d
 rw [C5c hd hb hu,j6]
 unfold W0
 rw [HA]
 by_cases c:val m*2^(e-u).toNat=0
 ·rw [c]
  have:DR 0 b=0:=by unfold DR;simp
  rw [this,KA,KA]
 ·congr 1
  unfold sgn
  cases s
  ·simp only [J7,if_false]
   exact (decide_eq_false (by omega)).symm
  ·simp only [if_true]
   exact (decide_eq_true (by omega)).symm
theorem C40 {lo hi:Nat} {b G B:Nat} (h1:lo≤hi) (hB:2^B≤hi) (hG:G+b≤B+1) (hb:1≤b) (hno:∀Z:Nat,¬(lo<Z*2^G∧Z*2^G≤hi)):DR lo b=DR hi b:=by
 have hbh:=a9.2 hB
 have e:bl lo=bl hi:=by
  refine Nat.le_antisymm (K1 h1) (G8 fun c=> ?_)
  have hne:hi≠0:=by
   intro e
   subst e
   have:=A9 B
   omega
  have k1:=W6 hne
  have k2:lo<2^(bl hi-1):=I8.1 (by omega)
  refine hno (2^(bl hi-1-G)) ?_
  rw [←B8,show bl hi-1-G+G=bl hi-1 by omega]
  exact ⟨k2,k1⟩
 refine C5b h1 e fun D hD=> ?_
 refine hno (D*2^(bl hi-b-G)) ?_
 rw [B9,←B8,show bl hi-b-G+G=bl hi-b by omega]
 exact hD
theorem C78 {lo R hi:Int} {b G B W F:Nat} (h1:lo≤R) (h2:R≤hi) (hw:hi-lo≤2^W) (hW:W<F) (hWB:W<B) (hR:2^B≤R.natAbs) (hG:G+b≤B) (hb:1≤b) (hfar:∀Z:Int,2^F≤(R-Z*2^G).natAbs):
  W0 lo b=W0 R b∧W0 hi b=W0 R b∧(0<R→0<lo)∧(R<0→hi<0):=by
 have cW:=Y7 W
 have cF:=Y7 F
 have cB:=Y7 B
 have cG:=Y7 G
 have lWF:(2:Nat)^W<2^F:=N4 (by decide) hW
 have lWB:(2:Nat)^(W+1)≤2^B:=B3 (by decide) hWB
 have eW1:(2:Nat)^(W+1)=2^W*2:=I5 ..
 have hB1:(2:Nat)^B=2^(B-1)*2:=by rw [←I5];congr 1;omega
 have key:∀lo R hi:Int,lo≤R→R≤hi→hi-lo≤2^W→2^B≤R.natAbs→(∀Z:Int,2^F≤(R-Z*2^G).natAbs)→0<R→0<lo∧W0 lo b=W0 R b∧W0 hi b=W0 R b:=by
  intro lo R hi h1 h2 hw hR hfar h0
  have hlo:0<lo:=by omega
  have no:∀a c:Nat,lo≤(a:Int)→(c:Int)≤hi→∀Z:Nat,¬(a<Z*2^G∧Z*2^G≤c):=by
   intro a c ha hc Z hZ
   have:=hfar (Z:Int)
   have e:((Z*2^G:Nat):Int)=(Z:Int)*2^G:=by rw [L5,cG]
   rw [←e] at this
   omega
  have c1:=C40 (lo:=lo.natAbs) (hi:=R.natAbs) (b:=b) (G:=G) (B:=B-1) (by omega) (by omega) (by omega) hb (no _ _ (by omega) (by omega))
  have c2:=C40 (lo:=R.natAbs) (hi:=hi.natAbs) (b:=b) (G:=G) (B:=B-1) (by omega) (by omega) (by omega) hb (no _ _ (by omega) (by omega))
  refine ⟨hlo,?_,?_⟩
  ·unfold W0
   rw [decide_eq_false (by omega:¬lo<0),decide_eq_false (by omega:¬R<0),c1]
  ·unfold W0
   rw [decide_eq_false (by omega:¬hi<0),decide_eq_false (by omega:¬R<0),c2]
 have Bp:0<(2:Nat)^B:=A9 B
 rcases Int.lt_or_gt_of_ne (show R≠0 by intro e;subst e;simp at hR) with h0|h0
 ·have hfar':∀Z:Int,2^F≤(-R-Z*2^G).natAbs:=fun Z=>by
   have:=hfar (-Z)
   rw [AH] at this
   omega
  obtain ⟨k1,k2,k3⟩:=key (-hi) (-R) (-lo) (by omega) (by omega) (by omega) (by omega) hfar' (by omega)
  rw [NH,NH] at k2 k3
  exact ⟨by omega,by omega,fun h=>by omega,fun _=>by omega⟩
 ·obtain ⟨k1,k2,k3⟩:=key lo R hi h1 h2 hw hR hfar h0
  exact ⟨k2,k3,fun _=>k1,fun h=>by omega⟩
end Go.Dy

namespace Go.Dy
def A6 (f:Int):Nat:=if f=1 then 23 else 52
def P7 (f:Int):Nat:=if f=1 then 255 else 2047
def M8 (f:Int):Nat:=if f=1 then 31 else 63
def C9 (f:Int):Int:=if f=1 then -149 else -1074
def P8 (f:Int):Int:=if f=1 then 128 else 1024
def isF (f:Int):Prop:=f=1∨f=2
def o9 (f:Int) (w:Nat):Bool:=decide (2^M8 f≤w)
def R1 (f:Int) (w:Nat):Nat:=w%2^M8 f
def Y3 (f:Int) (w:Nat):Nat:=R1 f w/2^A6 f
def wFr (f:Int) (w:Nat):Nat:=R1 f w%2^A6 f
def N6 (f:Int):Nat:=P7 f*2^A6 f
def D3 (f:Int) (w:Nat):Int:=if R1 f w=0 then 1 else if R1 f w<2^A6 f then 2 else if R1 f w<N6 f then 3 else if R1 f w=N6 f then 4 else 5
def S6 (f:Int) (w:Nat):Dyd:=form (o9 f w) (wFr f w+if Y3 f w=0 then 0 else 2^A6 f) ((if Y3 f w=0 then 0 else (Y3 f w:Int)-1)+C9 f)
theorem ZV {w k:Nat} (hk:k<64) (hw:w<2^(k+1)):(A7 64 (w:Int)&&& ~~~A7 64 ((2^k:Nat):Int)).toNat=w%2^k:=by
 have h64:w<2^64:=G7 hw (B3 (by decide) (by omega))
 have hk64:2^k<2^64:=N4 (by decide) hk
 rw [R7,R7,JH,BitVec.toNat_not,U7,U7,F9 h64,F9 hk64]
 apply Nat.eq_of_testBit_eq
 intro i
 rw [Nat.testBit_and,show 2^64-1-2^k=2^64-(2^k+1) by omega,Nat.testBit_two_pow_sub_succ hk64,Nat.testBit_mod_two_pow]
 rcases Nat.lt_trichotomy i k with c|c|c
 ·rw [decide_eq_true c,decide_eq_true (show i<64 by omega),DX (by omega)]
  simp
 ·subst c
  rw [decide_eq_false (Nat.lt_irrefl _),IU]
  simp
 ·rw [decide_eq_false (show¬i<k by omega),CP (G7 hw (B3 (by decide) (by omega)))]
  simp
theorem D2c {w k:Nat} (hk:k<64) (hw:w<2^(k+1)):(A7 64 (w:Int)&&&A7 64 ((2^k:Nat):Int)).toNat=if 2^k≤w then 2^k else 0:=by
 have h64:w<2^64:=G7 hw (B3 (by decide) (by omega))
 have hk64:2^k<2^64:=N4 (by decide) hk
 rw [R7,R7,JH,U7,U7,F9 h64,F9 hk64]
 have hb:w.testBit k=decide (2^k≤w):=by
  by_cases c:2^k≤w
  ·rw [decide_eq_true c]
   obtain ⟨d,rfl⟩:∃d,w=2^k+d:=⟨w-2^k,by omega⟩
   rw [I5] at hw
   rw [Nat.testBit_two_pow_add_eq,CP (by omega)]
   rfl
  ·rw [decide_eq_false c,CP (by omega)]
 apply Nat.eq_of_testBit_eq
 intro i
 rw [Nat.testBit_and]
 by_cases c:i=k
 ·subst c
  rw [hb,IU]
  by_cases d:2^i≤w
  ·rw [decide_eq_true d,if_pos d,IU];rfl
  ·rw [decide_eq_false d,if_neg d];simp
 ·rw [DX (by omega)]
  split
  ·rw [DX (by omega)];simp
  ·simp
theorem ZU {w k:Nat} (hk:k<64) (hw:w<2^64):(A7 64 (w:Int)&&&A7 64 ((2^k-1:Nat):Int)).toNat=w%2^k:=by
 have hk64:2^k<2^64:=N4 (by decide) hk
 rw [R7,R7,JH,U7,U7,F9 hw,F9 (show 2^k-1<2^64 by omega),Nat.and_two_pow_sub_one_eq_mod]
theorem C0y {w k:Nat} (hk:k<64) (hw:w<2^k):(A7 64 (w:Int)|||A7 64 ((2^k:Nat):Int)).toNat=w+2^k:=by
 have hk64:2^k<2^64:=N4 (by decide) hk
 rw [R7,R7,BitVec.toNat_or,U7,U7,F9 (show w<2^64 by omega),F9 hk64,Nat.or_comm]
 have:=Nat.two_pow_add_eq_or_of_lt hw 1
 rw [M0] at this
 omega
theorem D3t {w k:Nat} (hk:k<64) (hw:w<2^(k+1)):(A7 64 (w:Int)^^^A7 64 ((2^k:Nat):Int)).toNat=if 2^k≤w then w-2^k else w+2^k:=by
 have h64:w<2^64:=G7 hw (B3 (by decide) (by omega))
 have hk64:2^k<2^64:=N4 (by decide) hk
 rw [R7,R7,BitVec.toNat_xor,U7,U7,F9 h64,F9 hk64]
 have key:∀v,v<2^k→v^^^2^k=v+2^k:=by
  intro v hv
  apply Nat.eq_of_testBit_eq
  intro i
  rw [Nat.testBit_xor,Nat.add_comm]
  rcases Nat.lt_trichotomy i k with c|c|c
  ·rw [DX (by omega),Nat.testBit_two_pow_add_gt c]
   simp
  ·subst c
   rw [Nat.testBit_two_pow_add_eq,IU,CP hv]
   rfl
  ·have h1:v<2^i:=Nat.lt_trans hv (N4 (by decide) c)
   have h2:2^k+v<2^i:=by
    have:2^(k+1)≤2^i:=B3 (by decide) c
    rw [I5] at this
    omega
   rw [DX (by omega),CP h1,CP h2]
   rfl
 by_cases c:2^k≤w
 ·rw [if_pos c]
  obtain ⟨d,rfl⟩:∃d,w=d+2^k:=⟨w-2^k,by omega⟩
  rw [I5] at hw
  rw [←key d (by omega),Nat.xor_assoc,Nat.xor_self,Nat.xor_zero]
  rw [key d (by omega)]
  omega
 ·rw [if_neg c]
  exact key w (by omega)
end Go.Dy

namespace Go.Dy
def JO (b:Bool):Nat:=bif b then 1 else 0
def upB (m:Int) (neg odd half more:Bool):Bool:=if m=1 then (bif !more&& !odd then false else half) else if m=2 then half else if m=4 then !neg&&(half||more) else if m=5 then neg&&(half||more) else false
structure Prt where
 h:Nat
 top:Int
 more:Bool
def Prt.ok (p:Prt):Prop:=2^63≤p.h∧p.h<2^64
def GS (h d:Nat):Bool:=decide (h/2^(d-1)%2=1)
def NY (h d:Nat):Bool:=decide (h%2^(d-1)≠0)
def DG (p:Prt) (m:Int) (neg:Bool) (d:Nat):Nat×Bool:=
 (p.h/2^d+JO (upB m neg (decide (p.h/2^d%2=1)) (GS p.h d) (p.more||NY p.h d)),!GS p.h d&& !(p.more||NY p.h d))
def H4 (p:Prt) (m:Int) (neg:Bool) (e:Int):Nat×Bool:=
 if 64<e-p.top+64 then (JO (upB m neg false false true),false) else DG p m neg (e-p.top+64).toNat
def NX (f m:Int) (neg:Bool):Nat:=(if neg then 2^M8 f else 0)+(if m=3∨(m=4∧neg=true)∨(m=5∧neg=false) then N6 f-1 else N6 f)
def K6 (f:Int) (p:Prt):Int:=max (p.top-(A6 f+1)) (C9 f)
def R4 (f m:Int) (neg:Bool) (p:Prt):Nat×Int:=
 if P8 f<bl (H4 p m neg (K6 f p)).1+K6 f p then (NX f m neg,20)
 else ((if neg then 2^M8 f else 0)+((K6 f p-C9 f).toNat*2^A6 f+(H4 p m neg (K6 f p)).1),
  if (H4 p m neg (K6 f p)).2 then 0 else if bl (H4 p m neg (p.top-(A6 f+1))).1+p.top-(A6 f+1)<C9 f+(A6 f+1) then 24 else 16)
theorem YS (b:Bool):JO b≤1:=by cases b<;>decide
theorem KD {p:Prt} (hp:p.ok) (m:Int) (neg:Bool) {d:Nat} (hd:d≤64):(DG p m neg d).1≤2^(64-d):=by
 have h1:p.h/2^d<2^(64-d):=by
  rw [Nat.div_lt_iff_lt_mul (A9 d),←B8,show 64-d+d=64 by omega]
  exact hp.2
 have:=YS (upB m neg (decide (p.h/2^d%2=1)) (GS p.h d) (p.more||NY p.h d))
 unfold DG
 simp only
 omega
theorem J0 {f:Int} (hf:isF f):(A6 f=23∧P7 f=255∧M8 f=31∧C9 f= -149∧P8 f=128)∨(A6 f=52∧P7 f=2047∧M8 f=63∧C9 f= -1074∧P8 f=1024):=by
 rcases hf with h|h
 ·subst h;exact .inl ⟨rfl,rfl,rfl,rfl,rfl⟩
 ·subst h;exact .inr ⟨rfl,rfl,rfl,rfl,rfl⟩
theorem B84 {f m:Int} (hf:isF f) {neg:Bool} {p:Prt} (hp:p.ok) (ht:p.top+1≤P8 f):
  ∃z:Nat,(R4 f m neg p).1=(if neg then 2^M8 f else 0)+z∧z<N6 f∧(z=0→(R4 f m neg p).2=24)∧((R4 f m neg p).2=0∨(R4 f m neg p).2=16∨(R4 f m neg p).2=24):=by
 have hu:(H4 p m neg (K6 f p)).1≤2^(A6 f+1)∧(bl (H4 p m neg (K6 f p)).1+K6 f p≤P8 f):=by
  unfold H4
  split
  ·rename_i c
   have:=YS (upB m neg false false true)
   have hb:bl (JO (upB m neg false false true))≤1:=I8.2 (by omega)
   refine ⟨D9 this (Nat.one_le_two_pow),?_⟩
   simp only
   have:K6 f p=C9 f:=by unfold K6 at c ⊢;omega
   rcases J0 hf with h|h<;>omega
  ·rename_i c
   have hd:64-(A6 f+1)≤(K6 f p-p.top+64).toNat:=by unfold K6;rcases J0 hf with h|h<;>omega
   have hl:=KD hp m neg (d:=(K6 f p-p.top+64).toNat) (by omega)
   have he:p.top-(A6 f+1)≤K6 f p:=by unfold K6;omega
   refine ⟨D9 hl (B3 (by decide) (by omega)),?_⟩
   have hb:=K1 hl
   have hb2:bl (2^(64-(K6 f p-p.top+64).toNat))=64-(K6 f p-p.top+64).toNat+1:=by
    have:=E7 (n:=1) (by decide) (64-(K6 f p-p.top+64).toNat)
    rw [Q2,show bl 1=1 from rfl] at this
    omega
   omega
 have hz:(K6 f p-C9 f).toNat*2^A6 f+(H4 p m neg (K6 f p)).1<N6 f:=by
  have e1:(K6 f p-C9 f).toNat+2<P7 f:=by unfold K6;rcases J0 hf with h|h<;>omega
  have e2:2^(A6 f+1)=2*2^A6 f:=by rw [I5,B6]
  have e3:=L3 e1 (A9 (A6 f))
  rw [H2] at e3
  have h1:=hu.1
  unfold N6
  omega
 have hw:R4 f m neg p=((if neg then 2^M8 f else 0)+((K6 f p-C9 f).toNat*2^A6 f+(H4 p m neg (K6 f p)).1),
  if (H4 p m neg (K6 f p)).2 then 0 else if bl (H4 p m neg (p.top-(A6 f+1))).1+p.top-(A6 f+1)<C9 f+(A6 f+1) then 24 else 16):=by
  unfold R4
  rw [if_neg (by have:=hu.2;omega)]
 rw [hw]
 refine ⟨_,rfl,hz,fun h0=> ?_,?_⟩
 ·simp only
  have hn0:(H4 p m neg (K6 f p)).1=0:=by omega
  have he0:K6 f p=C9 f:=by
   have:(K6 f p-C9 f).toNat*2^A6 f=0:=by omega
   rcases Nat.mul_eq_zero.1 this with h|h
   ·have:C9 f≤K6 f p:=by unfold K6;omega
    omega
   ·have:=A9 (A6 f)
    omega
  have key:(H4 p m neg (K6 f p)).2=false∧p.top≤C9 f:=by
   unfold H4 at hn0 ⊢
   split
   ·exact ⟨rfl,by omega⟩
   ·rename_i c
    rw [if_neg c] at hn0
    have hd64:(K6 f p-p.top+64).toNat=64:=by
     have h1:p.h/2^(K6 f p-p.top+64).toNat=0:=by
      unfold DG at hn0
      simp only at hn0
      exact (Nat.add_eq_zero_iff.1 hn0).1
     have h2:p.h<2^(K6 f p-p.top+64).toNat:=by
      rcases Nat.div_eq_zero_iff.1 h1 with h|h
      ·have:=A9 (K6 f p-p.top+64).toNat;omega
      ·exact h
     rcases L4 (K6 f p-p.top+64).toNat 64 with d|d
     ·exfalso
      have:=B3 (n:=2) (by decide) (show (K6 f p-p.top+64).toNat≤63 by omega)
      have:=hp.1
      omega
     ·omega
    refine ⟨?_,by omega⟩
    rw [hd64]
    unfold DG GS
    have h3:p.h/2^(64-1)=1:=by
     have h1:=hp.1
     have h2:=hp.2
     omega
    simp only
    rw [h3]
    rfl
  rw [key.1,if_neg (by decide),if_pos]
  have h5:(H4 p m neg (p.top-(A6 f+1))).1≤2^(A6 f+1):=by
   unfold H4
   rw [if_neg (by rcases J0 hf with h|h<;>omega)]
   have hl:=KD hp m neg (d:=(p.top-(A6 f+1)-p.top+64).toNat) (by omega)
   refine D9 hl (B3 (by decide) ?_)
   rcases J0 hf with h|h<;>omega
  have hb:=K1 h5
  have hb2:bl (2^(A6 f+1))=A6 f+1+1:=by
   have:=E7 (n:=1) (by decide) (A6 f+1)
   rw [Q2,show bl 1=1 from rfl] at this
   omega
  have:=key.2
  rcases J0 hf with h|h<;>omega
 ·simp only
  split
  ·exact .inl rfl
  ·split
   ·exact .inr (.inr rfl)
   ·exact .inr (.inl rfl)
def I9 (d:Dyd):Prt:=⟨if bl (val d.mag)≤64 then val d.mag*2^(64-bl (val d.mag)) else val d.mag/2^(bl (val d.mag)-64),C7 d,decide (64<bl (val d.mag)∧val d.mag%2^(bl (val d.mag)-64)≠0)⟩
theorem B5g {d:Dyd} (h:val d.mag≠0):(I9 d).ok:=by
 unfold Prt.ok I9
 simp only
 have h1:=P9 (val d.mag)
 have h2:=W6 h
 have hb:=IV.2 h
 split
 ·rename_i c
  have e:2^64=2^bl (val d.mag)*2^(64-bl (val d.mag)):=by rw [←B8];congr 1;omega
  have e2:2^63=2^(bl (val d.mag)-1)*2^(64-bl (val d.mag)):=by rw [←B8];congr 1;omega
  rw [e,e2]
  exact ⟨C0 _ h2,L3 h1 (A9 _)⟩
 ·rename_i c
  have e:bl (val d.mag/2^(bl (val d.mag)-64))=64:=by rw [C5];omega
  exact ⟨a9.1 (by omega),I8.1 (by omega)⟩
def H8 (f m:Int) (d:Dyd):Nat×Int:=if d.mag=[] then (0,0) else R4 f m d.neg (I9 d)
def S3 (f m:Int) (d:Dyd):Nat×Int:=if d.mag=[] then (0,0) else R4 f m false ⟨(I9 (C3 d 64).1).h,(I9 (C3 d 64).1).top,(I9 (C3 d 64).1).more||(C3 d 64).2⟩
end Go.Dy

namespace Go.Dy
def AZ (f:Int):Bool:=decide (f=1)||decide (f=2)
def shF (f:Int):Nat:=if f=1 then 23 else if f=2 then 52 else 0
def shM (f:Int):Nat:=if f=1 then 255 else if f=2 then 2047 else 0
def shS (f:Int):Nat:=if f=1 then 2147483648 else if f=2 then 9223372036854775808 else 0
def B2i (f:Int):Int:=bif AZ f then 0 else 4
def H9 (f w:Int):Int:=bif AZ f then (if (2*shS f:Nat)≤w then 6 else 0) else 4
def M4 (a b c:Int):Prop:=(a=23∧b=255∧c=2147483648)∨(a=52∧b=2047∧c=9223372036854775808)
def I3 (a:Int):Int:=if a=23 then 1 else 2
def T7 (f:Int):Nat:=N6 f+2^(A6 f-1)
def D5 (f:Int) (neg:Bool):Nat:=if neg then 2^M8 f else 0
def YE (f:Int) (w:Nat):Nat:=if D3 f w=5 then T7 f else if o9 f w then w-2^M8 f else w+2^M8 f
def DD (f:Int) (d:Dyd):Nat:=(max (C7 d-A6 f-1) (C9 f)-C9 f).toNat*2^A6 f+val d.mag*2^(d.exp-max (C7 d-A6 f-1) (C9 f)).toNat
end Go.Dy
namespace Go.AI
open Go Go.RowKit Go.Proofs
set_option linter.unusedVariables false
def shA (f:Int):AV:= .agg [.num .i64 (Dy.shF f:Nat),.num .i64 (Dy.shM f:Nat),.num .u64 (Dy.shS f:Nat)]
def A3e:List AV→Option Spec
 |[.num .u8 f]=>some ⟨none,.tup [shA f,.bool (Dy.AZ f)]⟩
 |_=>none
def D24:List AV→Option Spec
 |[.agg [.num .i64 a,.num .i64 b,.num .u64 c]]=>some ⟨some (Dy.M4 a b c),.num .i64 (Dy.C9 (Dy.I3 a))⟩
 |_=>none
def D23:List AV→Option Spec
 |[.agg [.num .i64 a,.num .i64 b,.num .u64 c]]=>some ⟨some (Dy.M4 a b c),.num .u64 (Dy.N6 (Dy.I3 a):Nat)⟩
 |_=>none
def C3d:List AV→Option Spec
 |[.agg [.num .i64 a,.num .i64 b,.num .u64 c]]=>some ⟨some (Dy.M4 a b c),.num .u64 (Dy.T7 (Dy.I3 a):Nat)⟩
 |_=>none
def C3h:List AV→Option Spec
 |[.agg [.num .i64 a,.num .i64 b,.num .u64 c]]=>some ⟨none,.num .u64 0⟩
 |_=>none
def B1x:List AV→Option Spec
 |[.agg [.num .i64 a,.num .i64 b,.num .u64 c]]=>some ⟨some (Dy.M4 a b c),.num .u64 (Dy.N6 (Dy.I3 a)-1:Nat)⟩
 |_=>none
def D25:List AV→Option Spec
 |[.agg [.num .i64 a,.num .i64 b,.num .u64 c],.cref [2] [.num .u64 w]]=>some ⟨some (Dy.M4 a b c∧w<2*c),.num .u64 ((if Dy.o9 (Dy.I3 a) w.toNat then w.toNat-2^Dy.M8 (Dy.I3 a) else w.toNat+2^Dy.M8 (Dy.I3 a):Nat):Int)⟩
 |_=>none
def B1y:List AV→Option Spec
 |[.agg [.num .i64 a,.num .i64 b,.num .u64 c],.num .u64 w]=>some ⟨some (Dy.M4 a b c∧w<2*c),.agg [.bool (Dy.o9 (Dy.I3 a) w.toNat),.num .i64 (Dy.Y3 (Dy.I3 a) w.toNat:Nat),.num .u64 (Dy.wFr (Dy.I3 a) w.toNat:Nat)]⟩
 |_=>none
def B1v:List AV→Option Spec
 |[.agg [.num .i64 a,.num .i64 b,.num .u64 c],.num .u64 w]=>some ⟨some (Dy.M4 a b c∧w<2*c),.num .u8 (Dy.D3 (Dy.I3 a) w.toNat)⟩
 |_=>none
def C3b:List AV→Option Spec
 |[.agg [.num .i64 a,.num .i64 b,.num .u64 c],.agg [.bool neg,.num .i64 e,.num .u64 fr]]=>some ⟨some (Dy.M4 a b c∧e=0∧fr<c),.num .u64 (if neg then fr+c else fr)⟩
 |_=>none
def UQ:List (Nat×(List AV→Option Spec)):=(175,C1m)::(170,A3e)::(127,D24)::(129,D23)::A74
def C4r:List (Nat×(List AV→Option Spec)):=(130,C3d)::(131,C3h)::(169,B1x)::(138,D25)::(124,B1y)::(122,B1v)::(201,C3b)::UQ
def D28:List AV→Option Spec
 |[.num .u8 f,.vec [2] 1 [.num .u64 w]]=>some ⟨none,.tup [shA f,.num .i64 (Dy.H9 f w)]⟩
 |[.num .u8 f,.dig [2] []]=>some ⟨none,.tup [shA f,.num .i64 (Dy.B2i f)]⟩
 |_=>none
def OE:List (Nat×(List AV→Option Spec)):=(121,D28)::C4r
def D21:List AV→Option Spec
 |[.num .u8 f,.num .u64 w]=>some ⟨none,.num .i64 (Dy.H9 f w)⟩
 |_=>none
def C3e:List AV→Option Spec
 |[.num .u8 f,.num .u64 w]=>some ⟨some (Dy.H9 f w=0),.tup [.agg [.bool (Dy.o9 f w.toNat),.num .i64 (Dy.Y3 f w.toNat:Nat),.num .u64 (Dy.wFr f w.toNat:Nat)],.num .i64 0]⟩
 |_=>none
def B1u:List AV→Option Spec
 |[.num .u8 f,.num .u64 w]=>some ⟨some (Dy.H9 f w=0),.tup [.num .u8 (Dy.D3 f w.toNat),.num .i64 0]⟩
 |_=>none
def B1w:List AV→Option Spec
 |[.num .u8 f,.num .u64 w]=>some ⟨some (Dy.H9 f w=0),.tup [shA f,.num .i64 (if 4≤Dy.D3 f w.toNat then 7 else 0)]⟩
 |_=>none
def C3c:List AV→Option Spec
 |[.num .u8 f,.bool neg,.fn F []]=>
  if F=131 then some ⟨some (Dy.isF f),.tup [.num .u64 (Dy.D5 f neg:Nat),.num .i64 0]⟩
  else if F=129 then some ⟨some (Dy.isF f),.tup [.num .u64 (Dy.D5 f neg+Dy.N6 f:Nat),.num .i64 0]⟩
  else if F=169 then some ⟨some (Dy.isF f),.tup [.num .u64 (Dy.D5 f neg+(Dy.N6 f-1):Nat),.num .i64 0]⟩
  else if F=130 then some ⟨some (Dy.isF f∧neg=false),.tup [.num .u64 (Dy.T7 f:Nat),.num .i64 0]⟩
  else none
 |_=>none
def B1z:List AV→Option Spec
 |[.num .u8 f,.num .u64 w,.fn F [.cref [3] [.num .u64 w']]]=>if F=138 then some ⟨some (Dy.H9 f w=0∧w'=w),.tup [.num .u64 (Dy.YE f w.toNat:Nat),.num .i64 0]⟩ else none
 |_=>none
def UR:List (Nat×(List AV→Option Spec)):=(120,D21)::(65,C3e)::(63,B1u)::(123,B1w)::(128,C3c)::(137,B1z)::OE
def C3g:List AV→Option Spec
 |[.num .u8 f,.num .u64 w]=>some ⟨some (Dy.H9 f w=0),.tup [avD [0] (if 4≤Dy.D3 f w.toNat then Dy.L7 else Dy.S6 f w.toNat),.num .i64 (if 4≤Dy.D3 f w.toNat then 7 else 0)]⟩
 |_=>none
def D29:List AV→Option Spec
 |[.num .u8 f,.bool neg]=>some ⟨some (Dy.isF f),.tup [.num .u64 (Dy.D5 f neg:Nat),.num .i64 0]⟩
 |_=>none
def D22:List AV→Option Spec
 |[.num .u8 f,.bool neg]=>some ⟨some (Dy.isF f),.tup [.num .u64 (Dy.D5 f neg+Dy.N6 f:Nat),.num .i64 0]⟩
 |_=>none
def WU:List AV→Option Spec
 |[.num .u8 f,.bool neg]=>some ⟨some (Dy.isF f),.tup [.num .u64 (Dy.D5 f neg+(Dy.N6 f-1):Nat),.num .i64 0]⟩
 |_=>none
def D27:List AV→Option Spec
 |[.num .u8 f]=>some ⟨some (Dy.isF f),.tup [.num .u64 (Dy.T7 f:Nat),.num .i64 0]⟩
 |_=>none
def D26:List AV→Option Spec
 |[.num .u8 f,.num .u64 w]=>some ⟨some (Dy.H9 f w=0),.tup [.num .u64 (Dy.YE f w.toNat:Nat),.num .i64 0]⟩
 |_=>none
def wOf:List AV→Option Spec
 |[.num .u8 f,.agg [.bool s,.dig [2] m,.num .i64 e]]=>some ⟨some (Dy.isF f∧Dy.A5 ⟨s,m,e⟩=true∧Dy.bl (Dy.val m)≤Dy.A6 f+1∧(m≠[]→Dy.C9 f≤e∧Dy.C7 ⟨s,m,e⟩≤Dy.P8 f)),
   .tup [.num .u64 (if m=[] then 0 else Dy.D5 f s+Dy.DD f ⟨s,m,e⟩:Nat),.num .i64 0]⟩
 |_=>none
def A6z:List (Nat×(List AV→Option Spec)):=(64,C3g)::(68,D29)::(66,D22)::(119,WU)::(67,D27)::(72,D26)::(176,wOf)::UR
end Go.AI

namespace Go.Dy
def L2 (f m:Int):Int:=bif AZ f then (if 1≤m∧m≤5 then 0 else 5) else 4
def rP (f:Int):Int:=if f=1 then 24 else if f=2 then 53 else 0
def rL (f:Int):Int:=if f=1 then -149 else if f=2 then -1074 else 0
def rW (f:Int):Int:=if f=1 then 128 else if f=2 then 1024 else 0
end Go.Dy
namespace Go.AI
open Go Go.RowKit Go.Proofs
set_option linter.unusedVariables false
def frA (f:Int):AV:= .agg [.num .i64 (Dy.rP f),.num .i64 (Dy.rL f),.num .i64 (Dy.rW f)]
def B08:List AV→Option Spec
 |[.num .u8 f]=>some ⟨none,.tup [frA f,.bool (Dy.AZ f)]⟩
 |_=>none
def B09:List AV→Option Spec
 |[.agg [.bool s,.dig [1] m,.num .i64 e]]=>some ⟨some (Dy.A5 ⟨s,m,e⟩=true∧m≠[]),.agg [.num .u64 ((Dy.I9 ⟨s,m,e⟩).h:Nat),.num .i64 (Dy.I9 ⟨s,m,e⟩).top,.bool (Dy.I9 ⟨s,m,e⟩).more]⟩
 |_=>none
def rUp:List AV→Option Spec
 |[.num .u8 m,.bool neg,.bool odd,.bool half,.bool more]=>some ⟨none,.bool (Dy.upB m neg odd half more)⟩
 |_=>none
def D01:List AV→Option Spec
 |[.bool b]=>some ⟨none,.num .u64 (Dy.JO b:Nat)⟩
 |_=>none
def B65:List (Nat×(List AV→Option Spec)):=(168,B08)::(135,B09)::(200,rUp)::(199,D01)::A6z
def D07:List AV→Option Spec
 |[.num .u8 f,.num .u8 m,.dig [3] []]=>some ⟨none,.tup [frA f,.num .i64 (Dy.L2 f m)]⟩
 |[.num .u8 f,.num .u8 m,.vec [3] 3 [.agg [.bool s,.dig [3] d,.num .i64 e]]]=>some ⟨some (Dy.A5 ⟨s,d,e⟩=true),.tup [frA f,.num .i64 (Dy.L2 f m)]⟩
 |_=>none
def C16:List AV→Option Spec
 |[.agg [.num .u64 h,.num .i64 top,.bool more],.num .u8 m,.bool neg,.num .i64 e]=>
  some ⟨some (-1073741824≤top∧top≤1073741824∧ -1073741824≤e∧e≤1073741824∧1≤e-top+64),
   .tup [.num .u64 ((Dy.H4 ⟨h.toNat,top,more⟩ m neg e).1:Nat),.bool (Dy.H4 ⟨h.toNat,top,more⟩ m neg e).2]⟩
 |_=>none
def D1a:List (Nat×(List AV→Option Spec)):=(118,D07)::(174,C16)::B65
def D08:List AV→Option Spec
 |[.num .u8 f,.num .u8 m,.bool neg]=>some ⟨none,.tup [.num .u64 (bif decide (Dy.L2 f m=0) then Dy.NX f m neg else 0:Nat),.num .i64 (Dy.L2 f m)]⟩
 |_=>none
def D1b:List (Nat×(List AV→Option Spec)):=(61,D08)::D1a
def D0c:List AV→Option Spec
 |[.agg [.num .u64 h,.num .i64 top,.bool more],.num .u8 f,.agg [.num .i64 a,.num .i64 b,.num .i64 c],.num .u8 m,.bool neg]=>
  some ⟨some (Dy.L2 f m=0∧a=Dy.rP f∧b=Dy.rL f∧c=Dy.rW f∧9223372036854775808≤h∧ -20000000≤top∧top≤20000000),
   .tup [.num .u64 ((Dy.R4 f m neg ⟨h.toNat,top,more⟩).1:Nat),.num .u8 (Dy.R4 f m neg ⟨h.toNat,top,more⟩).2]⟩
 |_=>none
def C4s:List (Nat×(List AV→Option Spec)):=(136,D0c)::D1b
def C14:List AV→Option Spec
 |[.num .u8 f,.num .u8 m,.agg [.bool s,.dig [3] d,.num .i64 e]]=>
  some ⟨some (Dy.L2 f m=0∧Dy.A5 ⟨s,d,e⟩=true),
   .tup [.num .u64 ((Dy.H8 f m ⟨s,d,e⟩).1:Nat),.num .u8 (Dy.H8 f m ⟨s,d,e⟩).2,.num .i64 0]⟩
 |_=>none
def C13:List AV→Option Spec
 |[.num .u8 f,.num .u8 m,.agg [.bool s,.dig [3] d,.num .i64 e]]=>
  some ⟨some (Dy.L2 f m=0∧Dy.A5 ⟨s,d,e⟩=true∧s=false),
   .tup [.num .u64 ((Dy.S3 f m ⟨s,d,e⟩).1:Nat),.num .u8 (Dy.S3 f m ⟨s,d,e⟩).2,.num .i64 0]⟩
 |_=>none
def D1c:List (Nat×(List AV→Option Spec)):=(156,C14)::(71,C13)::C4s
def C9v:List AV→Option Spec
 |[.num .u8 f,.agg [.num .u64 a,.num .u64 b]]=>some ⟨none,.num .i64 (if Dy.H9 f a=0 then Dy.H9 f b else Dy.H9 f a)⟩
 |_=>none
def B66:List (Nat×(List AV→Option Spec)):=(62,C9v)::D1c
end Go.AI

namespace Go.AI
open Dy IntKind
open Go Go.RowKit Go.Proofs
set_option linter.unusedVariables false
set_option maxRecDepth 100000
set_option maxHeartbeats 0
end Go.AI

namespace Go.Dy
theorem BT {d:Dyd} {L E k:Nat} (h:Fit d L E) (hk:L≤32*k):d.mag.length≤k:=by
 have hm:=K5 (C1 (s:=d.neg) (m:=d.mag) (e:=d.exp) h.may)
 rw [←hm]
 exact J3.2 (D9 h.bits hk)
end Go.Dy
namespace Go.AI
open Go Go.RowKit Go.Proofs
set_option linter.unusedVariables false
set_option maxRecDepth 100000
set_option maxHeartbeats 1000000
theorem C9o:G6 Tryz.prog Inv (look D44):=NW
theorem C9p:G6 Tryz.prog Inv (look D45):=C9o
end Go.AI

namespace Go.Dy
theorem C5d (z e:Int) {b:Nat} (hb:1≤b):(F6 (C8 z e) b).1=C8 (W0 z b) e:=by
 rw [RA z e b (by omega)]
 simp only
 have ht:((bl z.natAbs:Int)-(b:Int)).toNat=bl z.natAbs-b:=by omega
 rw [ht,W2,←s6]
 congr 1
 unfold W0 DR
 rw [←Y7,UI]
theorem SM {d:Dyd} (h:A5 d=true) {b:Nat} (hb:1≤b) {V:Nat} (hV: -(V:Int)≤d.exp):(F6 d b).1=C8 (W0 (at_ d (-(V:Int))) b) (-(V:Int)):=by
 rw [←C5d _ _ hb,BK h hV]
theorem C3z {d:Dyd} {b:Nat} (hb:1≤b) {V:Nat} (h:A5 d=true) (hV: -(V:Int)≤d.exp): -(V:Int)≤(F6 d b).1.exp:=by
 rw [SM h hb hV]
 exact s0 (u9 _) (by omega)
theorem B2c {lo R hi:Int} {b:Nat} (hb:1≤b) (h1:lo≤R) (h2:R≤hi) (hs:(0<lo)∨(hi<0)) (hc:W0 lo b=W0 hi b):W0 R b=W0 lo b:=by
 unfold W0 at hc ⊢
 rcases hs with h|h
 ·rw [decide_eq_false (by omega:¬lo<0),decide_eq_false (by omega:¬hi<0)] at hc
  rw [decide_eq_false (by omega:¬lo<0),decide_eq_false (by omega:¬R<0)]
  unfold sgn at hc ⊢
  simp only [J7,if_false] at hc ⊢
  have hc:=Int.ofNat_inj.1 hc
  rw [SK hb (X:=lo.natAbs) (Y:=R.natAbs) (Z:=hi.natAbs) (by omega) (by omega) hc]
 ·rw [decide_eq_true (by omega:lo<0),decide_eq_true h] at hc
  rw [decide_eq_true (by omega:lo<0),decide_eq_true (by omega:R<0)]
  unfold sgn at hc ⊢
  simp only [if_true] at hc ⊢
  have hc:DR hi.natAbs b=DR lo.natAbs b:=by omega
  have:=SK hb (X:=hi.natAbs) (Y:=R.natAbs) (Z:=lo.natAbs) (by omega) (by omega) hc
  rw [this,hc]
theorem C6a {a c:Dyd} {V:Nat} (ha:A5 a=true) (hc:A5 c=true) (ea: -(V:Int)≤a.exp) (ec: -(V:Int)≤c.exp) (hle:at_ a (-(V:Int))≤at_ c (-(V:Int))):y5 a c≠0 ↔ (0<at_ a (-(V:Int))∨at_ c (-(V:Int))<0):=by
 unfold y5
 rw [B5v ha ea,B5v hc ec]
 generalize at_ a (-(V:Int))=A at*
 generalize at_ c (-(V:Int))=C at*
 constructor
 ·intro h
  refine G8 fun c=>h ?_
  unfold U2
  have h1:¬0<A:=fun h=>c (.inl h)
  have h2:¬C<0:=fun h=>c (.inr h)
  rw [if_neg h1,if_neg h2]
  by_cases h3:A<0
  ·rw [if_pos h3]
   by_cases h4:0<C
   ·rw [if_pos h4,if_neg (by decide)]
   ·rw [if_neg h4,if_neg (by decide)]
  ·rw [if_neg h3,ite_self]
 ·rintro (h|h)
  ·rw [IB h,IB (by omega:0<C),if_pos rfl]
   decide
  ·rw [IC h,IC (by omega:A<0),if_pos rfl]
   decide
end Go.Dy

namespace Go.Dy
def rtE (A B V:Nat):Nat:=isq ((A*A+B*B)*2^(2*V))
def CV (A B V:Nat):Nat:=isq ((rtE A B V+A*2^V)/2)
def T3 (A B V:Nat):Nat:=isq ((rtE A B V-A*2^V)/2)
theorem C82 {E a:Nat}:2*(isq ((E+a)/2)*isq ((E+a)/2))≤E+a∧E+a<2*((isq ((E+a)/2)+1)*(isq ((E+a)/2)+1)):=by
 have h:=W3 ((E+a)/2)
 generalize isq ((E+a)/2)*isq ((E+a)/2)=x at*
 generalize (isq ((E+a)/2)+1)*(isq ((E+a)/2)+1)=y at*
 omega
theorem C5m {E a:Nat} (h:a≤E):2*(isq ((E-a)/2)*isq ((E-a)/2))+a≤E∧E<2*((isq ((E-a)/2)+1)*(isq ((E-a)/2)+1))+a:=by
 have h:=W3 ((E-a)/2)
 generalize isq ((E-a)/2)*isq ((E-a)/2)=x at*
 generalize (isq ((E-a)/2)+1)*(isq ((E-a)/2)+1)=y at*
 omega
theorem LB {x y:Int} {a b:Nat} (hx:x.natAbs≤a) (hy:y.natAbs≤b):(x*y).natAbs≤a*b:=by
 rw [Int.natAbs_mul]
 exact I7 hx hy
theorem C7q {R E D2:Nat} {a:Int} {G M F:Nat} (hE1:E*E≤D2) (hE2:D2<(E+1)*(E+1)) (hns:∀k:Int,k*k≠(D2:Int)) (h1:2*((R:Int)*R)+a≤E) (h2:(E:Int)<2*(((R:Int)+1)*(R+1))+a)
  (hdiv:∀Z:Int,(2:Int)^M∣(2*((Z*2^G)*(Z*2^G))+a)*(2*((Z*2^G)*(Z*2^G))+a)-D2) (hf:60*(2^F*R*E)<2^M) (ht:12*(2^F*R)≤E) (hFR:2^F≤R) (Z:Int):2^F≤((R:Int)-Z*2^G).natAbs:=by
 refine G8 fun c=> ?_
 have hd:=hdiv Z
 obtain ⟨d,hdd⟩:∃d:Int,Z*2^G=R+d:=⟨Z*2^G-R,by omega⟩
 rw [hdd] at hd c
 have f0:=A9 F
 generalize 2^F=f at*
 have hd1:d.natAbs≤f:=by omega
 have hRR:((R:Int)+1)*(R+1)=R*R+2*R+1:=by rw [BG,MN,Int.mul_one,Int.one_mul];omega
 rw [hRR] at h2
 have hTT:((R:Int)+d)*(R+d)=R*R+2*(R*d)+d*d:=by rw [BG,MN,MN,v9 d R];omega
 obtain ⟨w,hw⟩:∃w:Int,2*(((R:Int)+d)*(R+d))+a=E+w:=⟨2*(((R:Int)+d)*(R+d))+a-E,by omega⟩
 rw [hw] at hd
 have k1:((R:Int)*d).natAbs≤R*f:=LB (by omega) hd1
 have k2:(d*d).natAbs≤f*f:=LB hd1 hd1
 have k3:f*f≤f*R:=F2 f hFR
 have k4:1*R≤f*R:=C0 R f0
 have k5:R*f=f*R:=B6 R f
 rw [hTT] at hw
 have hR1:1≤R:=by omega
 have hwt:w.natAbs≤12*(f*R):=by
  generalize f*R=fr at*
  generalize (R:Int)*d=x at*
  generalize d*d=y at*
  generalize (R:Int)*R=z at*
  omega
 have hs:((E:Int)+w)*(E+w)=E*E+2*(E*w)+w*w:=by rw [BG,MN,MN,v9 w E];omega
 have m1:((E:Int)*w).natAbs≤E*(12*(f*R)):=LB (by omega) hwt
 have m2:(w*w).natAbs≤E*(12*(f*R)):=LB (D9 hwt ht) hwt
 have m3:1*E≤(f*R)*E:=C0 E (by omega)
 have m4:E*(12*(f*R))=12*(f*R*E):=by rw [M9,B6 E]
 have m5:(E+1)*(E+1)=E*E+2*E+1:=by rw [H2,D0,M0,Q2];omega
 rw [m5] at hE2
 have m6:((E*E:Nat):Int)=(E:Int)*E:=by simp
 have hN:(((E:Int)+w)*(E+w)-D2).natAbs<2^M:=by
  rw [hs]
  rw [m4] at m1 m2
  generalize f*R*E=g at*
  generalize (E:Int)*w=x at*
  generalize w*w=y at*
  generalize (E:Int)*E=z at*
  generalize E*E=z' at*
  omega
 have hz:((E:Int)+w)*(E+w)-D2=0:=by
  refine Int.eq_zero_of_dvd_of_natAbs_lt_natAbs hd ?_
  rw [←Y7 M,S7]
  exact hN
 exact hns (E+w) (by omega)
theorem C4n {D:Nat}:∀(V k:Nat),k*k=D*2^(2*V)→∃j,j*j=D
 |0,k,h=>⟨k,by simpa using h⟩
 |V+1,k,h=>by
  have e:2^(2*(V+1))=4*2^(2*V):=by rw [show 2*(V+1)=2*V+2 by omega,B8,B6]
  rw [e,M9] at h
  obtain ⟨j,hj⟩:∃j,k=2*j:=by
   rcases Nat.mod_two_eq_zero_or_one k with c|c
   ·exact ⟨k/2,by omega⟩
   ·exfalso
    have h1:k*k%2=1:=by rw [Nat.mul_mod,c]
    rw [h] at h1
    omega
  subst hj
  refine C4n V j ?_
  have e2:2*j*(2*j)=4*(j*j):=by rw [F7]
  rw [e2] at h
  omega
theorem B0i {D V:Nat} (h:isq D*isq D≠D) (k:Int):k*k≠((D*2^(2*V):Nat):Int):=by
 intro e
 have e1:k.natAbs*k.natAbs=D*2^(2*V):=by
  have:=congrArg Int.natAbs e
  rw [Int.natAbs_mul,S7] at this
  exact this
 obtain ⟨j,hj⟩:=C4n V k.natAbs e1
 apply h
 rw [←hj,GV (I6 _) (K3 (by omega) (by omega))]
end Go.Dy

namespace Go.Dy
set_option maxRecDepth 100000
theorem C89 (a b c d:Int):a*b*(c*d)=a*c*(b*d):=by rw [AU,Int.mul_left_comm b,←AU]
theorem A09 {a b:Nat} (h:a≤b):(2:Int)^a∣2^b:=⟨2^(b-a),by rw [←MP,show a+(b-a)=b by omega]⟩
structure Parts (A B V:Nat):Prop where
 big:10000≤V
 dA:2^(V-1074)∣A
 dB:2^(V-1074)∣B
 off:B≠0
 lA:A<2^(V+1024)
 lB:B<2^(V+1024)
section
variable {A B V:Nat}
theorem Parts.D69 (h:Parts A B V):2^(V-1074)≤B:=Nat.le_of_dvd (by have:=h.off;omega) h.dB
theorem HK {x y:Nat} (h:x*x≤y*y):x≤y:=by
 rcases L4 y x with c|c
 ·have:=K3 c c
  omega
 ·exact c
theorem Y8 (k:Nat):2^k*2^k=2^(2*k):=by rw [←B8,show k+k=2*k by omega]
theorem UG:rtE A B V*rtE A B V≤(A*A+B*B)*2^(2*V)∧(A*A+B*B)*2^(2*V)<(rtE A B V+1)*(rtE A B V+1):=W3 _
theorem GN:(A*2^V)*(A*2^V)+(B*2^V)*(B*2^V)=(A*A+B*B)*2^(2*V):=by
 rw [F7,F7 B,Y8,←H2]
theorem WJ:A*2^V≤rtE A B V∧B*2^V≤rtE A B V:=by
 have h:= @GN A B V
 unfold rtE
 rw [←h]
 exact ⟨GX (by omega),GX (by omega)⟩
theorem A22 (h:Parts A B V):rtE A B V<2^(2*V+1025):=by
 refine A0b ?_
 rw [← @GN A B V]
 have e:2^(2*V+1025)=2^(V+1024)*2^V+2^(V+1024)*2^V:=by
  rw [←B8,show 2*V+1025=(V+1024+V)+1 by omega,I5];omega
 have hp:=A9 V
 have h1:A*2^V<2^(V+1024)*2^V:=L3 h.lA hp
 have h2:B*2^V<2^(V+1024)*2^V:=L3 h.lB hp
 rw [e]
 generalize 2^(V+1024)*2^V=y at*
 generalize A*2^V=p at*
 generalize B*2^V=q at*
 have h3:=K3 h1 h1
 have h4:=K3 h2 h2
 have h5:(y+y)*(y+y)=4*(y*y):=by rw [show y+y=2*y by omega,F7]
 omega
theorem C4k (h:Parts A B V):2^(2*V-1074)≤rtE A B V:=by
 have h1:=(@WJ A B V).2
 have h2:=C0 (2^V) h.D69
 rw [←B8] at h2
 have:=h.big
 rw [show V-1074+V=2*V-1074 by omega] at h2
 omega
theorem JN:2*(CV A B V*CV A B V)≤rtE A B V+A*2^V∧rtE A B V+A*2^V<2*((CV A B V+1)*(CV A B V+1)):=C82
theorem FI:2*(T3 A B V*T3 A B V)+A*2^V≤rtE A B V∧rtE A B V<2*((T3 A B V+1)*(T3 A B V+1))+A*2^V:=C5m (@WJ A B V).1
theorem C3t (h:Parts A B V):CV A B V<2^(V+513):=by
 rcases L4 (CV A B V) (2^(V+513)) with c|c
 ·exact c
 ·exfalso
  have h1:=I7 c c
  rw [Y8] at h1
  have h2:=(@JN A B V).1
  have h3:=(@WJ A B V).1
  have h4:=A22 h
  have h5:=B3 (n:=2) (by decide) (show 2*V+1025≤2*(V+513) by omega)
  omega
theorem C6b (h:Parts A B V):T3 A B V<2^(V+513):=by
 rcases L4 (T3 A B V) (2^(V+513)) with c|c
 ·exact c
 ·exfalso
  have h1:=I7 c c
  rw [Y8] at h1
  have h2:=(@FI A B V).1
  have h4:=A22 h
  have h5:=B3 (n:=2) (by decide) (show 2*V+1025≤2*(V+513) by omega)
  omega
theorem C4j {x k:Nat} (h:2^(2*k)≤(x+1)*(x+1)) (hlt:2^(2*k)<(x+1)*(x+1)):2^k≤x:=by
 rw [←Y8] at hlt
 rcases L4 x (2^k) with c|c
 ·have:=I7 (show x+1≤2^k by omega) (show x+1≤2^k by omega)
  omega
 ·exact c
theorem NE (h:Parts A B V):2^(V-538)≤CV A B V:=by
 have h1:=(@JN A B V).2
 have h2:=C4k h
 have hb:=h.big
 have e:2^(2*V-1074)=4*2^(2*(V-538)):=by rw [show 2*V-1074=2*(V-538)+2 by omega,B8,B6]
 exact C4j (by omega) (by have:=A9 (2*(V-538));omega)
theorem HJ (h:Parts A B V):2^(V-1588)≤T3 A B V:=by
 have h1:=(@FI A B V).2
 have hb:=h.big
 have hs:=(@UG A B V).2
 rw [← @GN A B V] at hs
 have h3:=(@WJ A B V).1
 have h4:=A22 h
 have h5:=C0 (2^V) h.D69
 rw [←B8,show V-1074+V=2*V-1074 by omega] at h5
 have h6:=I7 h5 h5
 rw [Y8] at h6
 have hlow:2^(2*V-3175)+A*2^V≤rtE A B V:=by
  refine G8 fun c=> ?_
  generalize A*2^V=a at*
  generalize B*2^V=b at*
  generalize rtE A B V=E at*
  obtain ⟨X,hX⟩:∃X,2^(2*V-3175)=X:=⟨_,rfl⟩
  rw [hX] at c
  have c1:E+1≤a+X:=by omega
  have c2:=I7 c1 c1
  have e1:(a+X)*(a+X)=a*a+X*(2*a+X):=by
   rw [H2,D0,D0 X,D0 X,B6 a X,M9 X 2]
   omega
  have hXs:X≤2^(2*V+1025):=by rw [←hX];exact B3 (by decide) (by omega)
  have c3:X*(2*a+X)≤X*(2^(2*V+1027)):=by
   refine F2 X ?_
   have e2:2^(2*V+1027)=4*2^(2*V+1025):=by rw [show 2*V+1027=(2*V+1025)+2 by omega,B8,B6]
   omega
  rw [←hX,←B8,show 2*V-3175+(2*V+1027)=2*(2*V-1074) by omega,hX] at c3
  omega
 have e:2^(2*V-3175)=2*2^(2*(V-1588)):=by rw [show 2*V-3175=2*(V-1588)+1 by omega,I5,B6]
 exact C4j (by omega) (by omega)
theorem C42 (h:Parts A B V) (hns:isq (A*A+B*B)*isq (A*A+B*B)≠A*A+B*B) {R:Nat} {a:Int} (ha:a=((A*2^V:Nat):Int)∨a= -((A*2^V:Nat):Int)) (h1:2*((R:Int)*R)+a≤rtE A B V) (h2:(rtE A B V:Int)<2*(((R:Int)+1)*(R+1))+a)
  (hlo:2^(V-1588)≤R) (hhi:R<2^(V+513)) (Z:Int):2^(bl R-4600)≤((R:Int)-Z*2^(bl R-65)).natAbs:=by
 have hV:=h.big
 have hE:= @UG A B V
 have hEl:=C4k h
 have hEh:=A22 h
 have hb1:V-1588<bl R:=a9.2 hlo
 have hb2:bl R≤V+513:=I8.2 hhi
 have hRt:R<2^bl R:=P9 R
 have hRl:2^(bl R-1)≤R:=W6 (by have:=A9 (V-1588);omega)
 generalize bl R=t at*
 refine C7q (M:=2*t+2*V-3568) hE.1 hE.2 (B0i hns) h1 h2 (fun Z=> ?_) ?_ ?_ ?_ Z
 ·-- what divides the square less the number
  obtain ⟨α,hα⟩:=h.dA
  obtain ⟨β,hβ⟩:=h.dB
  have ea:∃α':Int,a=α'*2^(2*V-1074):=by
   have e0:((A*2^V:Nat):Int)=(α:Int)*2^(2*V-1074):=by
    rw [hα,←Y7,←L5,B6 (2^(V-1074)) α,B9,←B8,show V-1074+V=2*V-1074 by omega]
   rcases ha with e|e
   ·exact ⟨α,by rw [e,e0]⟩
   ·exact ⟨-α,by rw [e,e0,AH]⟩
  have ed:a*a-(((A*A+B*B)*2^(2*V):Nat):Int)= -(((β*β:Nat):Int)*2^(2*(2*V-1074))):=by
   have e1:a*a=(((A*2^V)*(A*2^V):Nat):Int):=by
    rcases ha with e|e
    ·rw [e,←L5]
    ·rw [e,Int.neg_mul_neg,←L5]
   have e2:(B*2^V)*(B*2^V)=β*β*2^(2*(2*V-1074)):=by
    have e3:B*2^V=β*2^(2*V-1074):=by rw [hβ,B6 (2^(V-1074)) β,B9,←B8,show V-1074+V=2*V-1074 by omega]
    rw [e3,F7,Y8]
   rw [e1,← @GN A B V,e2,←Y7,←L5]
   omega
  obtain ⟨α',ea⟩:=ea
  obtain ⟨z,hz⟩:∃z:Int,Z*Z=z:=⟨_,rfl⟩
  have es:(Z*2^(t-65))*(Z*2^(t-65))=z*2^(2*(t-65)):=by
   rw [C89,hz,←MP,show t-65+(t-65)=2*(t-65) by omega]
  rw [es]
  have ex:(2*(z*2^(2*(t-65)))+a)*(2*(z*2^(2*(t-65)))+a)-(((A*A+B*B)*2^(2*V):Nat):Int)=
    4*((z*2^(2*(t-65)))*(z*2^(2*(t-65))))+4*((z*2^(2*(t-65)))*a)+(a*a-(((A*A+B*B)*2^(2*V):Nat):Int)):=by
   generalize z*2^(2*(t-65))=y
   rw [BG,MN,MN,AU,Int.mul_left_comm y 2 y,AU 2 y a,v9 a (2*y),AU 2 y a]
   omega
  rw [ex,ed]
  refine Int.dvd_add (Int.dvd_add (Int.dvd_mul_of_dvd_right ?_) (Int.dvd_mul_of_dvd_right ?_)) ?_
  ·refine Int.dvd_trans (A09 (show 2*t+2*V-3568≤2*(t-65)+2*(t-65) by omega)) ?_
   rw [C89,←MP]
   exact Int.dvd_mul_left _ _
  ·refine Int.dvd_trans (A09 (show 2*t+2*V-3568≤2*(t-65)+(2*V-1074) by omega)) ?_
   rw [ea,C89,←MP]
   exact Int.dvd_mul_left _ _
  ·refine Int.dvd_neg.2 (Int.dvd_trans (A09 (show 2*t+2*V-3568≤2*(2*V-1074) by omega)) ?_)
   exact Int.dvd_mul_left _ _
 ·have e:2^(2*t+2*V-3568)=2^6*(2^(t-4600)*2^t*2^(2*V+1025))*2:=by
   rw [←B8,←B8,←B8,←I5]
   congr 1
   omega
  have l1:2^(t-4600)*R≤2^(t-4600)*2^t:=F2 _ (by omega)
  have l2:2^(t-4600)*R*rtE A B V≤2^(t-4600)*2^t*2^(2*V+1025):=I7 l1 (by omega)
  rw [e]
  have p0:0<2^(t-4600)*2^t*2^(2*V+1025):=U9 (U9 (A9 _) (A9 _)) (A9 _)
  omega
 ·have l1:2^(t-4600)*R≤2^(t-4600)*2^t:=F2 _ (by omega)
  rw [←B8] at l1
  have l2:16*2^(t-4600+t)≤2^(2*V-1074):=by
   rw [show (16:Nat)=2^4 from rfl,←B8]
   exact B3 (by decide) (by omega)
  omega
 ·exact D9 (B3 (by decide) (by omega)) hRl
theorem D2q (h:Parts A B V) (hns:isq (A*A+B*B)*isq (A*A+B*B)≠A*A+B*B) (Z:Int):2^(bl (CV A B V)-4600)≤((CV A B V:Int)-Z*2^(bl (CV A B V)-65)).natAbs:=by
 have hs:= @JN A B V
 have hl:=NE h
 have hb:=h.big
 have hp:=B3 (n:=2) (by decide) (show V-1588≤V-538 by omega)
 have e1:((CV A B V*CV A B V:Nat):Int)=(CV A B V:Int)*CV A B V:=by simp
 have e2:(((CV A B V+1)*(CV A B V+1):Nat):Int)=((CV A B V:Int)+1)*(CV A B V+1):=by simp
 exact C42 h hns (.inr rfl) (by omega) (by omega) (by omega) (C3t h) Z
theorem C5h (h:Parts A B V) (hns:isq (A*A+B*B)*isq (A*A+B*B)≠A*A+B*B) (Z:Int):2^(bl (T3 A B V)-4600)≤((T3 A B V:Int)-Z*2^(bl (T3 A B V)-65)).natAbs:=by
 have hs:= @FI A B V
 have e1:((T3 A B V*T3 A B V:Nat):Int)=(T3 A B V:Int)*T3 A B V:=by simp
 have e2:(((T3 A B V+1)*(T3 A B V+1):Nat):Int)=((T3 A B V:Int)+1)*(T3 A B V+1):=by simp
 exact C42 h hns (.inl rfl) (by omega) (by omega) (HJ h) (C6b h) Z
end
end Go.Dy

namespace Go.Dy
set_option maxRecDepth 100000
def N1 (m a b:Nat):Prop:=a*m≤b*(m+1)
theorem A0p (m a:Nat):N1 m a a:=F2 a (Nat.le_succ m)
theorem B37 {m a b:Nat} (h:a≤b):N1 m a b:=I7 h (Nat.le_succ m)
theorem B9t {m m' a b:Nat} (hm:m'≤m) (h:N1 m a b):N1 m' a b:=by
 unfold N1 at*
 rcases Nat.le_total a b with c|c
 ·exact I7 c (Nat.le_succ m')
 ·obtain ⟨d,rfl⟩:∃d,a=b+d:=⟨a-b,by omega⟩
  rw [H2,D0,M0] at h ⊢
  have:=F2 d hm
  omega
theorem B38 {m a b c:Nat} (h:N1 (4*m) a b) (k:N1 (4*m) b c) (hm:0<m):N1 m a c:=by
 unfold N1 at*
 have h1:=C0 (4*m) h
 have h2:=C0 (4*m+1) k
 have e1:a*(4*m)*(4*m)=a*m*(16*m):=by rw [M9 a 4 m,B9 4 (a*m),M9 (a*m) 4 m,M9 (a*m) 16 m];omega
 have e2:b*(4*m+1)*(4*m)=b*(4*m)*(4*m+1):=by rw [BX]
 have e3:c*(4*m+1)*(4*m+1)≤c*(m+1)*(16*m):=by
  rw [B9,B9]
  refine F2 c ?_
  have x1:(4*m+1)*(4*m+1)=16*(m*m)+8*m+1:=by
   rw [H2,D0,M0,Q2,F7]
   omega
  have x2:(m+1)*(16*m)=16*(m*m)+16*m:=by
   rw [H2,Q2,M9]
  omega
 rw [e1] at h1
 rw [e2] at h1
 exact Nat.le_of_mul_le_mul_right (D9 h1 (D9 h2 e3)) (by omega)
theorem PF {m a b:Nat} (h:N1 m a b) (c:Nat):N1 m (a*c) (b*c):=by
 unfold N1 at*
 have:=C0 c h
 rw [BX a c m,BX b c]
 exact this
theorem C5s {m a b:Nat} (h:N1 m a b) (c:Nat):N1 m (a+c) (b+c):=by
 unfold N1 at*
 rw [H2,H2,D0 c,M0]
 omega
theorem B9u {m a b:Nat} (h:N1 m (a*a) (b*b)):N1 m a b:=by
 unfold N1 at*
 refine HK ?_
 have h1:=C0 m h
 have h2:b*b*(m+1)*m≤b*b*(m+1)*(m+1):=F2 _ (Nat.le_succ m)
 have e1:a*m*(a*m)=a*a*m*m:=by rw [F7,B9 (a*a)]
 have e2:b*(m+1)*(b*(m+1))=b*b*(m+1)*(m+1):=by rw [F7,B9 (b*b)]
 rw [e1,e2]
 omega
theorem BZ {m a b u:Nat} (h:a≤b+u) (hu:u*m≤b):N1 m a b:=by
 unfold N1
 have:=C0 m h
 rw [H2] at this
 rw [D0,M0]
 omega
theorem SN {d:Dyd} (hd:A5 d=true) {X V n:Nat} (hV: -(V:Int)≤d.exp) (hX:at_ d (-(V:Int))=X) (h0:X≠0) (hn:1≤n):
  ∃LO HI:Nat,(at_ (O7 d n false) (-(V:Int))=LO∧ -(V:Int)≤(O7 d n false).exp)∧(at_ (O7 d n true) (-(V:Int))=HI∧ -(V:Int)≤(O7 d n true).exp)∧LO≤X∧X≤HI∧N1 (2^(n-1)) X LO∧N1 (2^(n-1)) HI X:=by
 have hf:∀high,O7 d n high=C8 (CA (X:Int) (2^(bl X-n)) high) (-(V:Int)+((bl X-n:Nat):Int)):=by
  intro high
  have:=RB (X:Int) (-(V:Int)) n (by omega) high
  rw [←hX,BK hd hV,hX,S7,show ((bl X:Int)-(n:Int)).toNat=bl X-n by omega] at this
  exact this
 obtain ⟨t,ht⟩:∃t,bl X-n=t:=⟨_,rfl⟩
 rw [ht] at hf
 have hat:∀high,at_ (O7 d n high) (-(V:Int))=CA (X:Int) (2^t) high*2^t:=by
  intro high
  rw [hf high,SE (by omega)]
  congr 2
  omega
 have hex:∀high, -(V:Int)≤(O7 d n high).exp:=fun high=>by rw [hf high];exact s0 (by omega) (by omega)
 have hD:(0:Int)<2^t:=Int.pow_pos (by decide)
 have l:=B5o (z:=(X:Int)) hD
 have u:=A6q (z:=(X:Int)) hD
 have hlow:CA (X:Int) (2^t) false*2^t=((X/2^t*2^t:Nat):Int):=by
  show (X:Int)/2^t*2^t=_
  rw [←Y7]
  simp
 have hbig:t=0∨2^t*2^(n-1)≤X/2^t*2^t:=by
  by_cases c:t=0
  ·exact .inl c
  ·refine .inr ?_
   have hb:bl (X/2^t)=n:=by rw [C5];omega
   have h1:2^(n-1)≤X/2^t:=a9.1 (by omega)
   rw [B6]
   exact C0 _ h1
 have hp:=Y7 t
 obtain ⟨H,hH⟩:∃H:Nat,CA (X:Int) (2^t) true*2^t=H:=⟨(CA (X:Int) (2^t) true*2^t).toNat,by omega⟩
 refine ⟨X/2^t*2^t,H,⟨by rw [hat,hlow],hex _⟩,⟨by rw [hat,hH],hex _⟩,by omega,by omega,?_,?_⟩
 ·rcases hbig with c|c
  ·subst c
   refine B37 ?_
   rw [AY,Nat.div_one,M0]
   exact I6 _
  ·exact BZ (u:=2^t) (by omega) c
 ·rcases hbig with c|c
  ·rw [hH] at u
   subst c
   refine B37 ?_
   rw [Int.pow_zero] at u
   omega
  ·exact BZ (u:=2^t) (by omega) (by omega)
def Y9 (d:Dyd) (n:Int):Dyd:=bif (C3 d n).2 then C2 (C3 d n).1 (K0 (C7 (C3 d n).1-n)) else (C3 d n).1
theorem Z7 {d:Dyd} (hd:A5 d=true) (hs:d.neg=false) (h0:d.mag≠[]) {V n X:Nat} (hn:1≤n) (hV: -(2*V:Int)≤d.exp-(2*n+4)) (hX:at_ d (-(2*V:Int))=X):
  ∃L u:Nat,(at_ (C3 d n).1 (-(V:Int))=L∧ -(V:Int)≤(C3 d n).1.exp)∧(at_ (Y9 d n) (-(V:Int))=((if (C3 d n).2=true then L+u else L:Nat):Int)∧ -(V:Int)≤(Y9 d n).exp)∧
   L*L≤X∧X<(L+u)*(L+u)∧u*2^(n-1)≤L∧L≠0∧((C3 d n).2=true ↔ L*L≠X)∧
   ∃(q:Nat) (x1:Int),(C3 d n).1=form false q x1∧bl q=n∧ -(V:Int)≤x1∧L=q*2^(x1+V).toNat∧u=2^(x1+V).toNat∧Y9 d n=form false (if (C3 d n).2=true then q+1 else q) x1:=by
 obtain ⟨s,m,e⟩:=d
 simp only at hs h0 hV
 subst hs
 have hM:=Q1 (C1 hd) h0
 rw [j6] at hX
 have hX:((val m*2^(e - -(2*V:Int)).toNat:Nat):Int)=X:=hX
 have hX:val m*2^(e - -(2*V:Int)).toNat=X:=Int.ofNat.inj hX
 obtain ⟨z0,hz0⟩:∃z0:Int,(if 2*(n:Int)+2-(bl (val m):Int)<0 then (0:Int) else 2*(n:Int)+2-(bl (val m):Int))=z0:=⟨_,rfl⟩
 have hZ:U5 (val m) e n=(DY e z0).toNat:=by rw [←hz0];rfl
 obtain ⟨hZ1,hZ2,hZ3⟩:=KS e z0
 have hz1:0≤z0∧2*(n:Int)+2-(bl (val m):Int)≤z0∧z0≤2*n+2:=by
  rw [←hz0]
  split<;>omega
 obtain ⟨z,hz⟩:∃z:Nat,DY e z0=z:=⟨(DY e z0).toNat,by omega⟩
 rw [hz,A2] at hZ
 rw [hz] at hZ1 hZ2 hZ3
 obtain ⟨x0,hx0⟩:∃x0:Int,(e-(z:Int))/2=x0:=⟨_,rfl⟩
 have hxe:e-(z:Int)=2*x0:=by omega
 obtain ⟨p,hp⟩:∃p:Nat,x0+V=p:=⟨(x0+V).toNat,by omega⟩
 have hXp:X=val m*2^z*2^(2*p):=by
  rw [←hX,B9,←B8]
  congr 2
  omega
 have hbl:bl (val m*2^z)=bl (val m)+z:=E7 hM z
 obtain ⟨q1,q2⟩:=W3 (val m*2^z)
 have hQn:2^n≤isq (val m*2^z):=by
  refine GX ?_
  rw [Y8]
  exact a9.1 (by omega)
 have hrF:C3 ⟨false,m,e⟩ n=(form false (isq (val m*2^z)/2^(bl (isq (val m*2^z))-n)) (x0+((bl (isq (val m*2^z))-n:Nat):Int)),
   decide (isq (val m*2^z)%2^(bl (isq (val m*2^z))-n)≠0)||decide (isq (val m*2^z)*isq (val m*2^z)≠val m*2^z)):=by
  unfold C3
  simp only
  rw [hZ,hx0,r8 _ _ _ _ (by omega),show ((bl (isq (val m*2^z)):Int)-(n:Int)).toNat=bl (isq (val m*2^z))-n by omega]
 unfold Y9
 rw [hrF]
 generalize isq (val m*2^z)=Q at*
 generalize val m*2^z=N at*
 have hbq:n<bl Q:=a9.2 hQn
 obtain ⟨t,ht⟩:∃t,bl Q-n=t:=⟨_,rfl⟩
 rw [ht]
 have hbt:bl (Q/2^t)=n:=by rw [C5];omega
 have hq0:Q/2^t≠0:=fun c=>by rw [c,K2] at hbt;omega
 have hq1:2^(n-1)≤Q/2^t:=a9.1 (by omega)
 have hdm:=Nat.div_add_mod Q (2^t)
 have hml:=Nat.mod_lt Q (A9 t)
 have hpp:=A9 p
 have htop:C7 (form false (Q/2^t) (x0+(t:Int)))-(n:Int)=x0+t:=by rw [O6 hq0,hbt];omega
 have hat:at_ (form false (Q/2^t) (x0+(t:Int))) (-(V:Int))=((Q/2^t*2^t*2^p:Nat):Int):=by
  rw [KK (by omega),show (x0+(t:Int) - -(V:Int)).toNat=t+p by omega,B8,←B9]
  rfl
 have hex: -(V:Int)≤(form false (Q/2^t) (x0+(t:Int))).exp:=GR (by omega) (by omega)
 have huat:at_ (K0 (x0+(t:Int))) (-(V:Int))=((2^t*2^p:Nat):Int):=by
  rw [B0q _ _ (by omega),show (x0+(t:Int) - -(V:Int)).toNat=t+p by omega,MP]
  simp
 have huex: -(V:Int)≤(K0 (x0+(t:Int))).exp:=by show -(V:Int)≤x0+t;omega
 have hp2:2^(2*p)=2^p*2^p:=(Y8 p).symm
 rw [hp2] at hXp
 refine ⟨Q/2^t*2^t*2^p,2^t*2^p,⟨hat,hex⟩,?_,?_,?_,?_,?_,?_,Q/2^t,x0+t,rfl,hbt,by omega,?_,?_,?_⟩
 ·simp only
  cases hl:(decide (Q%2^t≠0)||decide (Q*Q≠N)) with
  |true=>
   simp only [cond_true,if_true]
   rw [htop]
   refine ⟨?_,?_⟩
   ·rw [SD hex huex,hat,huat,Int.natCast_add]
   ·rw [x5 hex huex]
    exact s0 (u9 _) (by omega)
  |false=>
   simp only [cond_false,J7,if_false]
   exact ⟨hat,hex⟩
 ·rw [hXp,F7]
  refine C0 _ (D9 (I7 ?_ ?_) q1)
  ·exact JM _ _
  ·exact JM _ _
 ·rw [hXp,←H2,F7]
  refine L3 (G7 q2 (I7 ?_ ?_)) (U9 hpp hpp)
  ·rw [B6 (Q/2^t)];omega
  ·rw [B6 (Q/2^t)];omega
 ·rw [B6 (2^t*2^p),←B9]
  exact C0 _ (C0 _ hq1)
 ·exact X0 (X0 hq0 (R6.1 (A9 t))) (R6.1 hpp)
 ·simp only [Bool.or_eq_true,decide_eq_true_eq]
  rw [hXp,F7]
  constructor
  ·rintro h c
   have c:=MS (U9 hpp hpp) c
   have l1:Q/2^t*2^t≤Q:=JM _ _
   have l2:=I7 l1 l1
   have e1:Q/2^t*2^t=Q:=by
    refine Nat.le_antisymm l1 (HK ?_)
    omega
   rw [e1] at c
   rcases h with h|h
   ·rw [B6] at e1
    omega
   ·exact h c
  ·intro h
   by_cases c:Q%2^t=0
   ·refine .inr fun c2=>h ?_
    have e1:Q/2^t*2^t=Q:=by rw [B6];omega
    rw [e1,c2]
   ·exact .inl c
 ·rw [show (x0+(t:Int)+V).toNat=t+p by omega,B8,←B9]
 ·rw [show (x0+(t:Int)+V).toNat=t+p by omega,B8]
 ·simp only
  cases hl:(decide (Q%2^t≠0)||decide (Q*Q≠N)) with
  |true=>
   simp only [cond_true,if_true]
   rw [htop,x5 (u:=x0+t) (KT hq0) (by show x0+(t:Int)≤x0+t;omega),KK (by omega),B0q _ _ (by omega),Int.sub_self]
   show C8 (sgn false (Q/2^t*2^0)+2^0) _=_
   rw [AY,M0,Int.pow_zero,W2]
   rfl
  |false=>
   simp only [cond_false,J7,if_false]
theorem B5k {a b:Dyd} (ha:A5 a=true) (hb:A5 b=true) (hsa:a.neg=false) (hsb:b.neg=false) (h0:b.mag≠[]) {V n X P:Nat} (hn:1≤n) (hXa:at_ a (-(V:Int))=X) (hPb:at_ b (-(V:Int))=P) (hVa: -(V:Int)≤a.exp) (hVb: -(V:Int)≤b.exp)
  (h1: -(V:Int)≤a.exp-b.exp-(n+1+bl (val b.mag))) (h2: -(2*V:Int)≤a.exp-(n+1+bl (val b.mag))):
  ∃QL QH:Nat,(at_ (V5 a b n false) (-(V:Int))=QL∧ -(V:Int)≤(V5 a b n false).exp)∧(at_ (V5 a b n true) (-(V:Int))=QH∧ -(V:Int)≤(V5 a b n true).exp)∧
   QL*P≤X*2^V∧X*2^V≤QH*P∧(a.mag≠[]→N1 (2^(n-1)) (X*2^V) (QL*P)∧N1 (2^(n-1)) (QH*P) (X*2^V)):=by
 obtain ⟨s,m,e⟩:=a
 obtain ⟨s',m',e'⟩:=b
 simp only at hsa hsb h0 hVa hVb h1 h2
 subst hsa hsb
 rw [j6] at hXa hPb
 have hXa:val m*2^(e - -(V:Int)).toNat=X:=Int.ofNat.inj hXa
 have hPb:val m'*2^(e' - -(V:Int)).toNat=P:=Int.ofNat.inj hPb
 obtain ⟨S,t,k1,k2,k3,k4,k5⟩:=A1u ha hb h0 (n:=(n:Int)) (by omega)
 have hN:=Q1 (C1 hb) h0
 have hD:0<val m'*2^t:=U9 (by omega) (A9 t)
 obtain ⟨w,hw⟩:∃w:Nat,e-e'-(S:Int)+t+V=w:=⟨(e-e'-(S:Int)+t+V).toNat,by omega⟩
 obtain ⟨k,hk⟩:∃k:Nat,e-(S:Int)+2*V=k:=⟨(e-(S:Int)+2*V).toNat,by omega⟩
 rw [A2] at k1
 have hs:sgn false (val m*2^S)=((val m*2^S:Nat):Int):=rfl
 rw [hs] at k5
 have hat:∀high,at_ (V5 ⟨false,m,e⟩ ⟨false,m',e'⟩ n high) (-(V:Int))=CA ((val m*2^S:Nat):Int) ((val m'*2^t:Nat):Int) high*2^w:=by
  intro high
  rw [k5 high,SE (by omega)]
  congr 2
  omega
 have hex:∀high, -(V:Int)≤(V5 ⟨false,m,e⟩ ⟨false,m',e'⟩ n high).exp:=fun high=>by rw [k5 high];exact s0 (by omega) (by omega)
 have hXk:X*2^V=val m*2^S*2^k:=by
  rw [←hXa,B9,B9,←B8,←B8]
  congr 2
  omega
 have hPk:∀q:Nat,q*2^w*P=q*(val m'*2^t)*2^k:=by
  intro q
  rw [←hPb,B9,M9 (2^w),←B8,B9,B9 (val m'),←B8]
  congr 3
  omega
 have l:=B5o (z:=((val m*2^S:Nat):Int)) (D:=((val m'*2^t:Nat):Int)) (by omega)
 have u:=A6q (z:=((val m*2^S:Nat):Int)) (D:=((val m'*2^t:Nat):Int)) (by omega)
 generalize val m*2^S=N at*
 generalize val m'*2^t=D at*
 have hlo:CA ((N:Nat):Int) (D:Int) false=((N/D:Nat):Int):=by
  show (N:Int)/D=_
  simp
 have hhi:∃q:Nat,CA ((N:Nat):Int) (D:Int) true=q:=by
  refine ⟨(CA ((N:Nat):Int) (D:Int) true).toNat,?_⟩
  have h:0≤CA ((N:Nat):Int) (D:Int) true:=by
   refine Int.le_of_mul_le_mul_right (a:=(D:Int)) ?_ (by omega)
   omega
  omega
 obtain ⟨q,hq⟩:=hhi
 rw [hlo] at l
 rw [hq] at u
 have pw:=Y7 w
 have l1:N/D*D≤N∧N<N/D*D+D:=by
  have:=l
  rw [←L5] at this
  omega
 have u1:N≤q*D∧q*D<N+D:=by
  have:=u
  rw [←L5] at this
  omega
 refine ⟨N/D*2^w,q*2^w,⟨by rw [hat,hlo];simp,hex _⟩,⟨by rw [hat,hq];simp,hex _⟩,?_,?_,fun hm=> ?_⟩
 ·rw [hPk,hXk]
  exact C0 _ l1.1
 ·rw [hPk,hXk]
  exact C0 _ u1.1
 ·have k1:=k1 (Q1 (C1 ha) hm)
  rw [hPk,hPk,hXk]
  have hDl:D*2^(n-1)≤N/D*D:=by
   rw [B6]
   exact C0 _ ((K8 hD).2 k1)
  exact ⟨PF (BZ (u:=D) (by omega) hDl) _,PF (BZ (u:=D) (by omega) (by rw [B6] at k1;exact k1)) _⟩
end Go.Dy
