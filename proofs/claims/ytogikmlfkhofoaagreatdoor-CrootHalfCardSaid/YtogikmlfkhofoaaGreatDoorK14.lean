/- My texts AIquart2, AIquart3, AIcutv, AIquart4, AIwd0, AIwd1, AIspecA, AIspecB, AVphase, AIphase1, AIred0, AIcr0, AIcr1, AIcr2, in one. -/
import Derived.Test.YtogikmlfkhofoaaGreatDoorK13
namespace Go.Dy
theorem cmp_eq_iff {a b:Dyd} {u:Int} (ha:u≤a.exp) (hb:u≤b.exp):cmpD a b=0 ↔ at_ a u=at_ b u:=by
 rw [cmpD_at ha hb]
 unfold cmpZ
 constructor
 ·intro h
  split at h
  ·exact absurd h (by decide)
  ·split at h
   ·exact absurd h (by decide)
   ·omega
 ·intro h
  rw [if_neg (by omega),if_neg (by omega)]
end Go.Dy

namespace Go.Dy
end Go.Dy

namespace Go.Dy
theorem cutR_at {s:Bool} {m:List Nat} {e b u:Int} (hd:mayD ⟨s,m,e⟩=true) (hb:1≤b) (hu:u≤e):
  at_ (cutR ⟨s,m,e⟩ b).1 u=sgn s (val m/2^((bl (val m):Int)-b).toNat*2^(((bl (val m):Int)-b).toNat+(e-u).toNat)):=by
 have h:=cutR_form s (val m) e b hb
 rw [form_self hd] at h
 rw [h]
 show at_ (form s _ _) u=_
 rw [at_form (by omega)]
 congr 2
 rw [show (e+(((bl (val m):Int)-b).toNat:Int)-u).toNat=((bl (val m):Int)-b).toNat+(e-u).toNat by omega]
def cutN (X:Nat) (b:Nat):Nat:=X/2^(bl X-b)*2^(bl X-b)
theorem cutN_shift (X b k:Nat):cutN (X*2^k) b=cutN X b*2^k:=by
 unfold cutN
 by_cases h:X=0
 ·subst h;simp
 ·rw [bl_mul_two_pow h]
  by_cases c:b≤bl X
  ·rw [show bl X+k-b=(bl X-b)+k by omega,Nat.pow_add,←Nat.mul_assoc]
   congr 2
   rw [Nat.mul_comm (2^(bl X-b)),←Nat.div_div_eq_div_mul,Nat.mul_div_cancel _ (Nat.two_pow_pos k)]
  ·rw [show bl X-b=0 by omega,Nat.pow_zero,Nat.div_one,Nat.mul_one]
   have h1:(X*2^k)%2^(bl X+k-b)=0:=by
    rw [show k=(bl X+k-b)+(k-(bl X+k-b)) by omega,Nat.pow_add,Nat.mul_left_comm,show (bl X+k-b)+(k-(bl X+k-b))=k by omega]
    exact Nat.mul_mod_right _ _
   exact Nat.div_mul_cancel (Nat.dvd_of_mod_eq_zero h1)
theorem bl_cutN (X:Nat) {b:Nat} (hb:1≤b):bl (cutN X b)=bl X:=by
 by_cases h:X=0
 ·subst h;simp [cutN,bl_zero]
 ·unfold cutN
  have hq:X/2^(bl X-b)≠0:=fun e=>by
   have h1:=bl_div_two_pow X (bl X-b)
   have h2:=bl_pos.2 h
   rw [e,bl_zero] at h1
   omega
  rw [bl_mul_two_pow hq,bl_div_two_pow]
  omega
theorem cutN_between {X Y Z b:Nat} (hb:1≤b) (h1:X≤Y) (h2:Y≤Z) (h:cutN X b=cutN Z b):cutN Y b=cutN X b:=by
 have e:bl X=bl Z:=by rw [←bl_cutN X hb,←bl_cutN Z hb,h]
 have hy:bl Y=bl X:=by
  have:=bl_mono h1
  have:=bl_mono h2
  omega
 have a1:=Nat.div_le_div_right (c:=2^(bl X-b)) h1
 have a2:=Nat.div_le_div_right (c:=2^(bl X-b)) h2
 unfold cutN at h ⊢
 rw [←e] at h
 rw [hy]
 have h3:=Nat.eq_of_mul_eq_mul_right (Nat.two_pow_pos _) h
 have:Y/2^(bl X-b)=X/2^(bl X-b):=by omega
 rw [this]
theorem cutN_same {X Z b:Nat} (h1:X≤Z) (hl:bl X=bl Z) (h:∀D,¬(X<D*2^(bl Z-b)∧D*2^(bl Z-b)≤Z)):cutN X b=cutN Z b:=by
 unfold cutN
 rw [hl]
 have a:=Nat.div_le_div_right (c:=2^(bl Z-b)) h1
 have b1:=Nat.div_mul_le_self Z (2^(bl Z-b))
 rcases Nat.lt_or_ge X (Z/2^(bl Z-b)*2^(bl Z-b)) with c|c
 ·exact absurd ⟨c,b1⟩ (h _)
 ·have:Z/2^(bl Z-b)≤X/2^(bl Z-b):=(Nat.le_div_iff_mul_le (Nat.two_pow_pos _)).2 c
  have:X/2^(bl Z-b)=Z/2^(bl Z-b):=by omega
  rw [this]
theorem cutR_cutN {s:Bool} {m:List Nat} {e u:Int} {b:Nat} (hd:mayD ⟨s,m,e⟩=true) (hb:1≤b) (hu:u≤e):
  at_ (cutR ⟨s,m,e⟩ b).1 u=sgn s (cutN (val m*2^(e-u).toNat) b):=by
 rw [cutR_at hd (by omega) hu,cutN_shift]
 unfold cutN
 rw [show ((bl (val m):Int)-(b:Int)).toNat=bl (val m)-b by omega,Nat.pow_add,Nat.mul_assoc]
end Go.Dy

namespace Go.Dy
def cutV (z:Int) (b:Nat):Int:=sgn (decide (z<0)) (cutN z.natAbs b)
theorem cutV_neg (z:Int) (b:Nat):cutV (-z) b= -cutV z b:=by
 unfold cutV
 rw [Int.natAbs_neg]
 by_cases c:z=0
 ·subst c
  have:cutN (0:Int).natAbs b=0:=by unfold cutN;simp
  rw [this]
  rfl
 ·unfold sgn
  rcases Int.lt_or_gt_of_ne c with h|h
  ·rw [decide_eq_true h,decide_eq_false (by omega)]
   simp
  ·rw [decide_eq_false (by omega:¬z<0),decide_eq_true (by omega)]
   simp
theorem cutR_at2 {d:Dyd} {u:Int} {b:Nat} (hd:mayD d=true) (hb:1≤b) (hu:u≤d.exp):at_ (cutR d b).1 u=cutV (at_ d u) b:=by
 obtain ⟨s,m,e⟩:=d
 rw [cutR_cutN hd hb hu,at_mk]
 unfold cutV
 rw [natAbs_sgn]
 by_cases c:val m*2^(e-u).toNat=0
 ·rw [c]
  have:cutN 0 b=0:=by unfold cutN;simp
  rw [this,sgn_zero,sgn_zero]
 ·congr 1
  unfold sgn
  cases s
  ·simp only [Bool.false_eq_true,if_false]
   exact (decide_eq_false (by omega)).symm
  ·simp only [if_true]
   exact (decide_eq_true (by omega)).symm
theorem cut_pos {lo hi:Nat} {b G B:Nat} (h1:lo≤hi) (hB:2^B≤hi) (hG:G+b≤B+1) (hb:1≤b) (hno:∀Z:Nat,¬(lo<Z*2^G∧Z*2^G≤hi)):cutN lo b=cutN hi b:=by
 have hbh:=lt_bl.2 hB
 have e:bl lo=bl hi:=by
  refine Nat.le_antisymm (bl_mono h1) (Decidable.byContradiction fun c=> ?_)
  have hne:hi≠0:=by
   intro e
   subst e
   have:=Nat.two_pow_pos B
   omega
  have k1:=two_bl_le hne
  have k2:lo<2^(bl hi-1):=bl_le.1 (by omega)
  refine hno (2^(bl hi-1-G)) ?_
  rw [←Nat.pow_add,show bl hi-1-G+G=bl hi-1 by omega]
  exact ⟨k2,k1⟩
 refine cutN_same h1 e fun D hD=> ?_
 refine hno (D*2^(bl hi-b-G)) ?_
 rw [Nat.mul_assoc,←Nat.pow_add,show bl hi-b-G+G=bl hi-b by omega]
 exact hD
theorem cut_near {lo R hi:Int} {b G B W F:Nat} (h1:lo≤R) (h2:R≤hi) (hw:hi-lo≤2^W) (hW:W<F) (hWB:W<B) (hR:2^B≤R.natAbs) (hG:G+b≤B) (hb:1≤b) (hfar:∀Z:Int,2^F≤(R-Z*2^G).natAbs):
  cutV lo b=cutV R b∧cutV hi b=cutV R b∧(0<R→0<lo)∧(R<0→hi<0):=by
 have cW:=pow_cast W
 have cF:=pow_cast F
 have cB:=pow_cast B
 have cG:=pow_cast G
 have lWF:(2:Nat)^W<2^F:=Nat.pow_lt_pow_right (by decide) hW
 have lWB:(2:Nat)^(W+1)≤2^B:=Nat.pow_le_pow_right (by decide) hWB
 have eW1:(2:Nat)^(W+1)=2^W*2:=Nat.pow_succ ..
 have hB1:(2:Nat)^B=2^(B-1)*2:=by rw [←Nat.pow_succ];congr 1;omega
 have key:∀lo R hi:Int,lo≤R→R≤hi→hi-lo≤2^W→2^B≤R.natAbs→(∀Z:Int,2^F≤(R-Z*2^G).natAbs)→0<R→0<lo∧cutV lo b=cutV R b∧cutV hi b=cutV R b:=by
  intro lo R hi h1 h2 hw hR hfar h0
  have hlo:0<lo:=by omega
  have no:∀a c:Nat,lo≤(a:Int)→(c:Int)≤hi→∀Z:Nat,¬(a<Z*2^G∧Z*2^G≤c):=by
   intro a c ha hc Z hZ
   have:=hfar (Z:Int)
   have e:((Z*2^G:Nat):Int)=(Z:Int)*2^G:=by rw [Int.natCast_mul,cG]
   rw [←e] at this
   omega
  have c1:=cut_pos (lo:=lo.natAbs) (hi:=R.natAbs) (b:=b) (G:=G) (B:=B-1) (by omega) (by omega) (by omega) hb (no _ _ (by omega) (by omega))
  have c2:=cut_pos (lo:=R.natAbs) (hi:=hi.natAbs) (b:=b) (G:=G) (B:=B-1) (by omega) (by omega) (by omega) hb (no _ _ (by omega) (by omega))
  refine ⟨hlo,?_,?_⟩
  ·unfold cutV
   rw [decide_eq_false (by omega:¬lo<0),decide_eq_false (by omega:¬R<0),c1]
  ·unfold cutV
   rw [decide_eq_false (by omega:¬hi<0),decide_eq_false (by omega:¬R<0),c2]
 have Bp:0<(2:Nat)^B:=Nat.two_pow_pos B
 rcases Int.lt_or_gt_of_ne (show R≠0 by intro e;subst e;simp at hR) with h0|h0
 ·have hfar':∀Z:Int,2^F≤(-R-Z*2^G).natAbs:=fun Z=>by
   have:=hfar (-Z)
   rw [Int.neg_mul] at this
   omega
  obtain ⟨k1,k2,k3⟩:=key (-hi) (-R) (-lo) (by omega) (by omega) (by omega) (by omega) hfar' (by omega)
  rw [cutV_neg,cutV_neg] at k2 k3
  exact ⟨by omega,by omega,fun h=>by omega,fun _=>by omega⟩
 ·obtain ⟨k1,k2,k3⟩:=key lo R hi h1 h2 hw hR hfar h0
  exact ⟨k2,k3,fun _=>k1,fun h=>by omega⟩
end Go.Dy

namespace Go.Dy
def wFrac (f:Int):Nat:=if f=1 then 23 else 52
def wMost (f:Int):Nat:=if f=1 then 255 else 2047
def wBit (f:Int):Nat:=if f=1 then 31 else 63
def wLow (f:Int):Int:=if f=1 then -149 else -1074
def wWide (f:Int):Int:=if f=1 then 128 else 1024
def isF (f:Int):Prop:=f=1∨f=2
def wNeg (f:Int) (w:Nat):Bool:=decide (2^wBit f≤w)
def wSize (f:Int) (w:Nat):Nat:=w%2^wBit f
def wExp (f:Int) (w:Nat):Nat:=wSize f w/2^wFrac f
def wFr (f:Int) (w:Nat):Nat:=wSize f w%2^wFrac f
def wInf (f:Int):Nat:=wMost f*2^wFrac f
def wClass (f:Int) (w:Nat):Int:=if wSize f w=0 then 1 else if wSize f w<2^wFrac f then 2 else if wSize f w<wInf f then 3 else if wSize f w=wInf f then 4 else 5
def wVal (f:Int) (w:Nat):Dyd:=form (wNeg f w) (wFr f w+if wExp f w=0 then 0 else 2^wFrac f) ((if wExp f w=0 then 0 else (wExp f w:Int)-1)+wLow f)
theorem andnot_bit {w k:Nat} (hk:k<64) (hw:w<2^(k+1)):(BitVec.ofInt 64 (w:Int)&&& ~~~BitVec.ofInt 64 ((2^k:Nat):Int)).toNat=w%2^k:=by
 have h64:w<2^64:=Nat.lt_of_lt_of_le hw (Nat.pow_le_pow_right (by decide) (by omega))
 have hk64:2^k<2^64:=Nat.pow_lt_pow_right (by decide) hk
 rw [BitVec.ofInt_natCast,BitVec.ofInt_natCast,BitVec.toNat_and,BitVec.toNat_not,BitVec.toNat_ofNat,BitVec.toNat_ofNat,Nat.mod_eq_of_lt h64,Nat.mod_eq_of_lt hk64]
 apply Nat.eq_of_testBit_eq
 intro i
 rw [Nat.testBit_and,show 2^64-1-2^k=2^64-(2^k+1) by omega,Nat.testBit_two_pow_sub_succ hk64,Nat.testBit_mod_two_pow]
 rcases Nat.lt_trichotomy i k with c|c|c
 ·rw [decide_eq_true c,decide_eq_true (show i<64 by omega),Nat.testBit_two_pow_of_ne (by omega)]
  simp
 ·subst c
  rw [decide_eq_false (Nat.lt_irrefl _),Nat.testBit_two_pow_self]
  simp
 ·rw [decide_eq_false (show¬i<k by omega),Nat.testBit_lt_two_pow (Nat.lt_of_lt_of_le hw (Nat.pow_le_pow_right (by decide) (by omega)))]
  simp
theorem and_bit {w k:Nat} (hk:k<64) (hw:w<2^(k+1)):(BitVec.ofInt 64 (w:Int)&&&BitVec.ofInt 64 ((2^k:Nat):Int)).toNat=if 2^k≤w then 2^k else 0:=by
 have h64:w<2^64:=Nat.lt_of_lt_of_le hw (Nat.pow_le_pow_right (by decide) (by omega))
 have hk64:2^k<2^64:=Nat.pow_lt_pow_right (by decide) hk
 rw [BitVec.ofInt_natCast,BitVec.ofInt_natCast,BitVec.toNat_and,BitVec.toNat_ofNat,BitVec.toNat_ofNat,Nat.mod_eq_of_lt h64,Nat.mod_eq_of_lt hk64]
 have hb:w.testBit k=decide (2^k≤w):=by
  by_cases c:2^k≤w
  ·rw [decide_eq_true c]
   obtain ⟨d,rfl⟩:∃d,w=2^k+d:=⟨w-2^k,by omega⟩
   rw [Nat.pow_succ] at hw
   rw [Nat.testBit_two_pow_add_eq,Nat.testBit_lt_two_pow (by omega)]
   rfl
  ·rw [decide_eq_false c,Nat.testBit_lt_two_pow (by omega)]
 apply Nat.eq_of_testBit_eq
 intro i
 rw [Nat.testBit_and]
 by_cases c:i=k
 ·subst c
  rw [hb,Nat.testBit_two_pow_self]
  by_cases d:2^i≤w
  ·rw [decide_eq_true d,if_pos d,Nat.testBit_two_pow_self];rfl
  ·rw [decide_eq_false d,if_neg d];simp
 ·rw [Nat.testBit_two_pow_of_ne (by omega)]
  split
  ·rw [Nat.testBit_two_pow_of_ne (by omega)];simp
  ·simp
theorem and_mask {w k:Nat} (hk:k<64) (hw:w<2^64):(BitVec.ofInt 64 (w:Int)&&&BitVec.ofInt 64 ((2^k-1:Nat):Int)).toNat=w%2^k:=by
 have hk64:2^k<2^64:=Nat.pow_lt_pow_right (by decide) hk
 rw [BitVec.ofInt_natCast,BitVec.ofInt_natCast,BitVec.toNat_and,BitVec.toNat_ofNat,BitVec.toNat_ofNat,Nat.mod_eq_of_lt hw,Nat.mod_eq_of_lt (show 2^k-1<2^64 by omega),Nat.and_two_pow_sub_one_eq_mod]
theorem or_bit {w k:Nat} (hk:k<64) (hw:w<2^k):(BitVec.ofInt 64 (w:Int)|||BitVec.ofInt 64 ((2^k:Nat):Int)).toNat=w+2^k:=by
 have hk64:2^k<2^64:=Nat.pow_lt_pow_right (by decide) hk
 rw [BitVec.ofInt_natCast,BitVec.ofInt_natCast,BitVec.toNat_or,BitVec.toNat_ofNat,BitVec.toNat_ofNat,Nat.mod_eq_of_lt (show w<2^64 by omega),Nat.mod_eq_of_lt hk64,Nat.or_comm]
 have:=Nat.two_pow_add_eq_or_of_lt hw 1
 rw [Nat.mul_one] at this
 omega
theorem xor_bit {w k:Nat} (hk:k<64) (hw:w<2^(k+1)):(BitVec.ofInt 64 (w:Int)^^^BitVec.ofInt 64 ((2^k:Nat):Int)).toNat=if 2^k≤w then w-2^k else w+2^k:=by
 have h64:w<2^64:=Nat.lt_of_lt_of_le hw (Nat.pow_le_pow_right (by decide) (by omega))
 have hk64:2^k<2^64:=Nat.pow_lt_pow_right (by decide) hk
 rw [BitVec.ofInt_natCast,BitVec.ofInt_natCast,BitVec.toNat_xor,BitVec.toNat_ofNat,BitVec.toNat_ofNat,Nat.mod_eq_of_lt h64,Nat.mod_eq_of_lt hk64]
 have key:∀v,v<2^k→v^^^2^k=v+2^k:=by
  intro v hv
  apply Nat.eq_of_testBit_eq
  intro i
  rw [Nat.testBit_xor,Nat.add_comm]
  rcases Nat.lt_trichotomy i k with c|c|c
  ·rw [Nat.testBit_two_pow_of_ne (by omega),Nat.testBit_two_pow_add_gt c]
   simp
  ·subst c
   rw [Nat.testBit_two_pow_add_eq,Nat.testBit_two_pow_self,Nat.testBit_lt_two_pow hv]
   rfl
  ·have h1:v<2^i:=Nat.lt_trans hv (Nat.pow_lt_pow_right (by decide) c)
   have h2:2^k+v<2^i:=by
    have:2^(k+1)≤2^i:=Nat.pow_le_pow_right (by decide) c
    rw [Nat.pow_succ] at this
    omega
   rw [Nat.testBit_two_pow_of_ne (by omega),Nat.testBit_lt_two_pow h1,Nat.testBit_lt_two_pow h2]
   rfl
 by_cases c:2^k≤w
 ·rw [if_pos c]
  obtain ⟨d,rfl⟩:∃d,w=d+2^k:=⟨w-2^k,by omega⟩
  rw [Nat.pow_succ] at hw
  rw [←key d (by omega),Nat.xor_assoc,Nat.xor_self,Nat.xor_zero]
  rw [key d (by omega)]
  omega
 ·rw [if_neg c]
  exact key w (by omega)
end Go.Dy

namespace Go.Dy
def btoN (b:Bool):Nat:=bif b then 1 else 0
def upB (m:Int) (neg odd half more:Bool):Bool:=if m=1 then (bif !more&& !odd then false else half) else if m=2 then half else if m=4 then !neg&&(half||more) else if m=5 then neg&&(half||more) else false
structure Prt where
 h:Nat
 top:Int
 more:Bool
def Prt.ok (p:Prt):Prop:=2^63≤p.h∧p.h<2^64
def halfN (h d:Nat):Bool:=decide (h/2^(d-1)%2=1)
def restN (h d:Nat):Bool:=decide (h%2^(d-1)≠0)
def unitsD (p:Prt) (m:Int) (neg:Bool) (d:Nat):Nat×Bool:=
 (p.h/2^d+btoN (upB m neg (decide (p.h/2^d%2=1)) (halfN p.h d) (p.more||restN p.h d)),!halfN p.h d&& !(p.more||restN p.h d))
def unitsN (p:Prt) (m:Int) (neg:Bool) (e:Int):Nat×Bool:=
 if 64<e-p.top+64 then (btoN (upB m neg false false true),false) else unitsD p m neg (e-p.top+64).toNat
def overW (f m:Int) (neg:Bool):Nat:=(if neg then 2^wBit f else 0)+(if m=3∨(m=4∧neg=true)∨(m=5∧neg=false) then wInf f-1 else wInf f)
def unitE (f:Int) (p:Prt):Int:=max (p.top-(wFrac f+1)) (wLow f)
def wordN (f m:Int) (neg:Bool) (p:Prt):Nat×Int:=
 if wWide f<bl (unitsN p m neg (unitE f p)).1+unitE f p then (overW f m neg,20)
 else ((if neg then 2^wBit f else 0)+((unitE f p-wLow f).toNat*2^wFrac f+(unitsN p m neg (unitE f p)).1),
  if (unitsN p m neg (unitE f p)).2 then 0 else if bl (unitsN p m neg (p.top-(wFrac f+1))).1+p.top-(wFrac f+1)<wLow f+(wFrac f+1) then 24 else 16)
theorem btoN_le (b:Bool):btoN b≤1:=by cases b<;>decide
theorem unitsD_le {p:Prt} (hp:p.ok) (m:Int) (neg:Bool) {d:Nat} (hd:d≤64):(unitsD p m neg d).1≤2^(64-d):=by
 have h1:p.h/2^d<2^(64-d):=by
  rw [Nat.div_lt_iff_lt_mul (Nat.two_pow_pos d),←Nat.pow_add,show 64-d+d=64 by omega]
  exact hp.2
 have:=btoN_le (upB m neg (decide (p.h/2^d%2=1)) (halfN p.h d) (p.more||restN p.h d))
 unfold unitsD
 simp only
 omega
theorem fmt_facts {f:Int} (hf:isF f):(wFrac f=23∧wMost f=255∧wBit f=31∧wLow f= -149∧wWide f=128)∨(wFrac f=52∧wMost f=2047∧wBit f=63∧wLow f= -1074∧wWide f=1024):=by
 rcases hf with h|h
 ·subst h;exact .inl ⟨rfl,rfl,rfl,rfl,rfl⟩
 ·subst h;exact .inr ⟨rfl,rfl,rfl,rfl,rfl⟩
theorem wordN_facts {f m:Int} (hf:isF f) {neg:Bool} {p:Prt} (hp:p.ok) (ht:p.top+1≤wWide f):
  ∃z:Nat,(wordN f m neg p).1=(if neg then 2^wBit f else 0)+z∧z<wInf f∧(z=0→(wordN f m neg p).2=24)∧((wordN f m neg p).2=0∨(wordN f m neg p).2=16∨(wordN f m neg p).2=24):=by
 have hu:(unitsN p m neg (unitE f p)).1≤2^(wFrac f+1)∧(bl (unitsN p m neg (unitE f p)).1+unitE f p≤wWide f):=by
  unfold unitsN
  split
  ·rename_i c
   have:=btoN_le (upB m neg false false true)
   have hb:bl (btoN (upB m neg false false true))≤1:=bl_le.2 (by omega)
   refine ⟨Nat.le_trans this (Nat.one_le_two_pow),?_⟩
   simp only
   have:unitE f p=wLow f:=by unfold unitE at c ⊢;omega
   rcases fmt_facts hf with h|h<;>omega
  ·rename_i c
   have hd:64-(wFrac f+1)≤(unitE f p-p.top+64).toNat:=by unfold unitE;rcases fmt_facts hf with h|h<;>omega
   have hl:=unitsD_le hp m neg (d:=(unitE f p-p.top+64).toNat) (by omega)
   have he:p.top-(wFrac f+1)≤unitE f p:=by unfold unitE;omega
   refine ⟨Nat.le_trans hl (Nat.pow_le_pow_right (by decide) (by omega)),?_⟩
   have hb:=bl_mono hl
   have hb2:bl (2^(64-(unitE f p-p.top+64).toNat))=64-(unitE f p-p.top+64).toNat+1:=by
    have:=bl_mul_two_pow (n:=1) (by decide) (64-(unitE f p-p.top+64).toNat)
    rw [Nat.one_mul,show bl 1=1 from rfl] at this
    omega
   omega
 have hz:(unitE f p-wLow f).toNat*2^wFrac f+(unitsN p m neg (unitE f p)).1<wInf f:=by
  have e1:(unitE f p-wLow f).toNat+2<wMost f:=by unfold unitE;rcases fmt_facts hf with h|h<;>omega
  have e2:2^(wFrac f+1)=2*2^wFrac f:=by rw [Nat.pow_succ,Nat.mul_comm]
  have e3:=Nat.mul_lt_mul_of_pos_right e1 (Nat.two_pow_pos (wFrac f))
  rw [Nat.add_mul] at e3
  have h1:=hu.1
  unfold wInf
  omega
 have hw:wordN f m neg p=((if neg then 2^wBit f else 0)+((unitE f p-wLow f).toNat*2^wFrac f+(unitsN p m neg (unitE f p)).1),
  if (unitsN p m neg (unitE f p)).2 then 0 else if bl (unitsN p m neg (p.top-(wFrac f+1))).1+p.top-(wFrac f+1)<wLow f+(wFrac f+1) then 24 else 16):=by
  unfold wordN
  rw [if_neg (by have:=hu.2;omega)]
 rw [hw]
 refine ⟨_,rfl,hz,fun h0=> ?_,?_⟩
 ·simp only
  have hn0:(unitsN p m neg (unitE f p)).1=0:=by omega
  have he0:unitE f p=wLow f:=by
   have:(unitE f p-wLow f).toNat*2^wFrac f=0:=by omega
   rcases Nat.mul_eq_zero.1 this with h|h
   ·have:wLow f≤unitE f p:=by unfold unitE;omega
    omega
   ·have:=Nat.two_pow_pos (wFrac f)
    omega
  have key:(unitsN p m neg (unitE f p)).2=false∧p.top≤wLow f:=by
   unfold unitsN at hn0 ⊢
   split
   ·exact ⟨rfl,by omega⟩
   ·rename_i c
    rw [if_neg c] at hn0
    have hd64:(unitE f p-p.top+64).toNat=64:=by
     have h1:p.h/2^(unitE f p-p.top+64).toNat=0:=by
      unfold unitsD at hn0
      simp only at hn0
      exact (Nat.add_eq_zero_iff.1 hn0).1
     have h2:p.h<2^(unitE f p-p.top+64).toNat:=by
      rcases Nat.div_eq_zero_iff.1 h1 with h|h
      ·have:=Nat.two_pow_pos (unitE f p-p.top+64).toNat;omega
      ·exact h
     rcases Nat.lt_or_ge (unitE f p-p.top+64).toNat 64 with d|d
     ·exfalso
      have:=Nat.pow_le_pow_right (n:=2) (by decide) (show (unitE f p-p.top+64).toNat≤63 by omega)
      have:=hp.1
      omega
     ·omega
    refine ⟨?_,by omega⟩
    rw [hd64]
    unfold unitsD halfN
    have h3:p.h/2^(64-1)=1:=by
     have h1:=hp.1
     have h2:=hp.2
     omega
    simp only
    rw [h3]
    rfl
  rw [key.1,if_neg (by decide),if_pos]
  have h5:(unitsN p m neg (p.top-(wFrac f+1))).1≤2^(wFrac f+1):=by
   unfold unitsN
   rw [if_neg (by rcases fmt_facts hf with h|h<;>omega)]
   have hl:=unitsD_le hp m neg (d:=(p.top-(wFrac f+1)-p.top+64).toNat) (by omega)
   refine Nat.le_trans hl (Nat.pow_le_pow_right (by decide) ?_)
   rcases fmt_facts hf with h|h<;>omega
  have hb:=bl_mono h5
  have hb2:bl (2^(wFrac f+1))=wFrac f+1+1:=by
   have:=bl_mul_two_pow (n:=1) (by decide) (wFrac f+1)
   rw [Nat.one_mul,show bl 1=1 from rfl] at this
   omega
  have:=key.2
  rcases fmt_facts hf with h|h<;>omega
 ·simp only
  split
  ·exact .inl rfl
  ·split
   ·exact .inr (.inr rfl)
   ·exact .inr (.inl rfl)
def partD (d:Dyd):Prt:=⟨if bl (val d.mag)≤64 then val d.mag*2^(64-bl (val d.mag)) else val d.mag/2^(bl (val d.mag)-64),topD d,decide (64<bl (val d.mag)∧val d.mag%2^(bl (val d.mag)-64)≠0)⟩
theorem partD_ok {d:Dyd} (h:val d.mag≠0):(partD d).ok:=by
 unfold Prt.ok partD
 simp only
 have h1:=lt_two_bl (val d.mag)
 have h2:=two_bl_le h
 have hb:=bl_pos.2 h
 split
 ·rename_i c
  have e:2^64=2^bl (val d.mag)*2^(64-bl (val d.mag)):=by rw [←Nat.pow_add];congr 1;omega
  have e2:2^63=2^(bl (val d.mag)-1)*2^(64-bl (val d.mag)):=by rw [←Nat.pow_add];congr 1;omega
  rw [e,e2]
  exact ⟨Nat.mul_le_mul_right _ h2,Nat.mul_lt_mul_of_pos_right h1 (Nat.two_pow_pos _)⟩
 ·rename_i c
  have e:bl (val d.mag/2^(bl (val d.mag)-64))=64:=by rw [bl_div_two_pow];omega
  exact ⟨lt_bl.1 (by omega),bl_le.1 (by omega)⟩
def roundW (f m:Int) (d:Dyd):Nat×Int:=if d.mag=[] then (0,0) else wordN f m d.neg (partD d)
def rootW (f m:Int) (d:Dyd):Nat×Int:=if d.mag=[] then (0,0) else wordN f m false ⟨(partD (rootF d 64).1).h,(partD (rootF d 64).1).top,(partD (rootF d 64).1).more||(rootF d 64).2⟩
end Go.Dy

namespace Go.Dy
def isFb (f:Int):Bool:=decide (f=1)||decide (f=2)
def shF (f:Int):Nat:=if f=1 then 23 else if f=2 then 52 else 0
def shM (f:Int):Nat:=if f=1 then 255 else if f=2 then 2047 else 0
def shS (f:Int):Nat:=if f=1 then 2147483648 else if f=2 then 9223372036854775808 else 0
def errF (f:Int):Int:=bif isFb f then 0 else 4
def errW (f w:Int):Int:=bif isFb f then (if (2*shS f:Nat)≤w then 6 else 0) else 4
def isShape (a b c:Int):Prop:=(a=23∧b=255∧c=2147483648)∨(a=52∧b=2047∧c=9223372036854775808)
def fmtOf (a:Int):Int:=if a=23 then 1 else 2
def noneW (f:Int):Nat:=wInf f+2^(wFrac f-1)
def signW (f:Int) (neg:Bool):Nat:=if neg then 2^wBit f else 0
def negW (f:Int) (w:Nat):Nat:=if wClass f w=5 then noneW f else if wNeg f w then w-2^wBit f else w+2^wBit f
def sizeW (f:Int) (d:Dyd):Nat:=(max (topD d-wFrac f-1) (wLow f)-wLow f).toNat*2^wFrac f+val d.mag*2^(d.exp-max (topD d-wFrac f-1) (wLow f)).toNat
end Go.Dy
namespace Go.AI
open Go Go.RowKit Go.Proofs
set_option linter.unusedVariables false
def shA (f:Int):AV:= .agg [.num .i64 (Dy.shF f:Nat),.num .i64 (Dy.shM f:Nat),.num .u64 (Dy.shS f:Nat)]
def wShapeOf:List AV→Option Spec
 |[.num .u8 f]=>some ⟨none,.tup [shA f,.bool (Dy.isFb f)]⟩
 |_=>none
def wLowS:List AV→Option Spec
 |[.agg [.num .i64 a,.num .i64 b,.num .u64 c]]=>some ⟨some (Dy.isShape a b c),.num .i64 (Dy.wLow (Dy.fmtOf a))⟩
 |_=>none
def wInfS:List AV→Option Spec
 |[.agg [.num .i64 a,.num .i64 b,.num .u64 c]]=>some ⟨some (Dy.isShape a b c),.num .u64 (Dy.wInf (Dy.fmtOf a):Nat)⟩
 |_=>none
def wNoneS:List AV→Option Spec
 |[.agg [.num .i64 a,.num .i64 b,.num .u64 c]]=>some ⟨some (Dy.isShape a b c),.num .u64 (Dy.noneW (Dy.fmtOf a):Nat)⟩
 |_=>none
def wZero1:List AV→Option Spec
 |[.agg [.num .i64 a,.num .i64 b,.num .u64 c]]=>some ⟨none,.num .u64 0⟩
 |_=>none
def wGreat1:List AV→Option Spec
 |[.agg [.num .i64 a,.num .i64 b,.num .u64 c]]=>some ⟨some (Dy.isShape a b c),.num .u64 (Dy.wInf (Dy.fmtOf a)-1:Nat)⟩
 |_=>none
def wNeg1:List AV→Option Spec
 |[.agg [.num .i64 a,.num .i64 b,.num .u64 c],.cref [2] [.num .u64 w]]=>some ⟨some (Dy.isShape a b c∧w<2*c),.num .u64 ((if Dy.wNeg (Dy.fmtOf a) w.toNat then w.toNat-2^Dy.wBit (Dy.fmtOf a) else w.toNat+2^Dy.wBit (Dy.fmtOf a):Nat):Int)⟩
 |_=>none
def wSplitS:List AV→Option Spec
 |[.agg [.num .i64 a,.num .i64 b,.num .u64 c],.num .u64 w]=>some ⟨some (Dy.isShape a b c∧w<2*c),.agg [.bool (Dy.wNeg (Dy.fmtOf a) w.toNat),.num .i64 (Dy.wExp (Dy.fmtOf a) w.toNat:Nat),.num .u64 (Dy.wFr (Dy.fmtOf a) w.toNat:Nat)]⟩
 |_=>none
def wClassS:List AV→Option Spec
 |[.agg [.num .i64 a,.num .i64 b,.num .u64 c],.num .u64 w]=>some ⟨some (Dy.isShape a b c∧w<2*c),.num .u8 (Dy.wClass (Dy.fmtOf a) w.toNat)⟩
 |_=>none
def wJoinS:List AV→Option Spec
 |[.agg [.num .i64 a,.num .i64 b,.num .u64 c],.agg [.bool neg,.num .i64 e,.num .u64 fr]]=>some ⟨some (Dy.isShape a b c∧e=0∧fr<c),.num .u64 (if neg then fr+c else fr)⟩
 |_=>none
def tabA0:List (Nat×(List AV→Option Spec)):=(175,sLen64)::(170,wShapeOf)::(127,wLowS)::(129,wInfS)::tabR3
def tabA1:List (Nat×(List AV→Option Spec)):=(130,wNoneS)::(131,wZero1)::(169,wGreat1)::(138,wNeg1)::(124,wSplitS)::(122,wClassS)::(201,wJoinS)::tabA0
def wOpen:List AV→Option Spec
 |[.num .u8 f,.vec [2] 1 [.num .u64 w]]=>some ⟨none,.tup [shA f,.num .i64 (Dy.errW f w)]⟩
 |[.num .u8 f,.dig [2] []]=>some ⟨none,.tup [shA f,.num .i64 (Dy.errF f)]⟩
 |_=>none
def tabA2:List (Nat×(List AV→Option Spec)):=(121,wOpen)::tabA1
def wGood:List AV→Option Spec
 |[.num .u8 f,.num .u64 w]=>some ⟨none,.num .i64 (Dy.errW f w)⟩
 |_=>none
def wSplit:List AV→Option Spec
 |[.num .u8 f,.num .u64 w]=>some ⟨some (Dy.errW f w=0),.tup [.agg [.bool (Dy.wNeg f w.toNat),.num .i64 (Dy.wExp f w.toNat:Nat),.num .u64 (Dy.wFr f w.toNat:Nat)],.num .i64 0]⟩
 |_=>none
def wClassF:List AV→Option Spec
 |[.num .u8 f,.num .u64 w]=>some ⟨some (Dy.errW f w=0),.tup [.num .u8 (Dy.wClass f w.toNat),.num .i64 0]⟩
 |_=>none
def wFinite:List AV→Option Spec
 |[.num .u8 f,.num .u64 w]=>some ⟨some (Dy.errW f w=0),.tup [shA f,.num .i64 (if 4≤Dy.wClass f w.toNat then 7 else 0)]⟩
 |_=>none
def wNamed:List AV→Option Spec
 |[.num .u8 f,.bool neg,.fn F []]=>
  if F=131 then some ⟨some (Dy.isF f),.tup [.num .u64 (Dy.signW f neg:Nat),.num .i64 0]⟩
  else if F=129 then some ⟨some (Dy.isF f),.tup [.num .u64 (Dy.signW f neg+Dy.wInf f:Nat),.num .i64 0]⟩
  else if F=169 then some ⟨some (Dy.isF f),.tup [.num .u64 (Dy.signW f neg+(Dy.wInf f-1):Nat),.num .i64 0]⟩
  else if F=130 then some ⟨some (Dy.isF f∧neg=false),.tup [.num .u64 (Dy.noneW f:Nat),.num .i64 0]⟩
  else none
 |_=>none
def wTurned:List AV→Option Spec
 |[.num .u8 f,.num .u64 w,.fn F [.cref [3] [.num .u64 w']]]=>if F=138 then some ⟨some (Dy.errW f w=0∧w'=w),.tup [.num .u64 (Dy.negW f w.toNat:Nat),.num .i64 0]⟩ else none
 |_=>none
def tabA3:List (Nat×(List AV→Option Spec)):=(120,wGood)::(65,wSplit)::(63,wClassF)::(123,wFinite)::(128,wNamed)::(137,wTurned)::tabA2
def wValue:List AV→Option Spec
 |[.num .u8 f,.num .u64 w]=>some ⟨some (Dy.errW f w=0),.tup [avD [0] (if 4≤Dy.wClass f w.toNat then Dy.zeroD else Dy.wVal f w.toNat),.num .i64 (if 4≤Dy.wClass f w.toNat then 7 else 0)]⟩
 |_=>none
def wZero:List AV→Option Spec
 |[.num .u8 f,.bool neg]=>some ⟨some (Dy.isF f),.tup [.num .u64 (Dy.signW f neg:Nat),.num .i64 0]⟩
 |_=>none
def wInfF:List AV→Option Spec
 |[.num .u8 f,.bool neg]=>some ⟨some (Dy.isF f),.tup [.num .u64 (Dy.signW f neg+Dy.wInf f:Nat),.num .i64 0]⟩
 |_=>none
def wGreatest:List AV→Option Spec
 |[.num .u8 f,.bool neg]=>some ⟨some (Dy.isF f),.tup [.num .u64 (Dy.signW f neg+(Dy.wInf f-1):Nat),.num .i64 0]⟩
 |_=>none
def wNone:List AV→Option Spec
 |[.num .u8 f]=>some ⟨some (Dy.isF f),.tup [.num .u64 (Dy.noneW f:Nat),.num .i64 0]⟩
 |_=>none
def wNegF:List AV→Option Spec
 |[.num .u8 f,.num .u64 w]=>some ⟨some (Dy.errW f w=0),.tup [.num .u64 (Dy.negW f w.toNat:Nat),.num .i64 0]⟩
 |_=>none
def wOf:List AV→Option Spec
 |[.num .u8 f,.agg [.bool s,.dig [2] m,.num .i64 e]]=>some ⟨some (Dy.isF f∧Dy.mayD ⟨s,m,e⟩=true∧Dy.bl (Dy.val m)≤Dy.wFrac f+1∧(m≠[]→Dy.wLow f≤e∧Dy.topD ⟨s,m,e⟩≤Dy.wWide f)),
   .tup [.num .u64 (if m=[] then 0 else Dy.signW f s+Dy.sizeW f ⟨s,m,e⟩:Nat),.num .i64 0]⟩
 |_=>none
def tabA4:List (Nat×(List AV→Option Spec)):=(64,wValue)::(68,wZero)::(66,wInfF)::(119,wGreatest)::(67,wNone)::(72,wNegF)::(176,wOf)::tabA3
end Go.AI

namespace Go.Dy
def errM (f m:Int):Int:=bif isFb f then (if 1≤m∧m≤5 then 0 else 5) else 4
def rP (f:Int):Int:=if f=1 then 24 else if f=2 then 53 else 0
def rL (f:Int):Int:=if f=1 then -149 else if f=2 then -1074 else 0
def rW (f:Int):Int:=if f=1 then 128 else if f=2 then 1024 else 0
end Go.Dy
namespace Go.AI
open Go Go.RowKit Go.Proofs
set_option linter.unusedVariables false
def frA (f:Int):AV:= .agg [.num .i64 (Dy.rP f),.num .i64 (Dy.rL f),.num .i64 (Dy.rW f)]
def rFormOf:List AV→Option Spec
 |[.num .u8 f]=>some ⟨none,.tup [frA f,.bool (Dy.isFb f)]⟩
 |_=>none
def rPartOf:List AV→Option Spec
 |[.agg [.bool s,.dig [1] m,.num .i64 e]]=>some ⟨some (Dy.mayD ⟨s,m,e⟩=true∧m≠[]),.agg [.num .u64 ((Dy.partD ⟨s,m,e⟩).h:Nat),.num .i64 (Dy.partD ⟨s,m,e⟩).top,.bool (Dy.partD ⟨s,m,e⟩).more]⟩
 |_=>none
def rUp:List AV→Option Spec
 |[.num .u8 m,.bool neg,.bool odd,.bool half,.bool more]=>some ⟨none,.bool (Dy.upB m neg odd half more)⟩
 |_=>none
def rBtoi:List AV→Option Spec
 |[.bool b]=>some ⟨none,.num .u64 (Dy.btoN b:Nat)⟩
 |_=>none
def tabB0:List (Nat×(List AV→Option Spec)):=(168,rFormOf)::(135,rPartOf)::(200,rUp)::(199,rBtoi)::tabA4
def rOpen:List AV→Option Spec
 |[.num .u8 f,.num .u8 m,.dig [3] []]=>some ⟨none,.tup [frA f,.num .i64 (Dy.errM f m)]⟩
 |[.num .u8 f,.num .u8 m,.vec [3] 3 [.agg [.bool s,.dig [3] d,.num .i64 e]]]=>some ⟨some (Dy.mayD ⟨s,d,e⟩=true),.tup [frA f,.num .i64 (Dy.errM f m)]⟩
 |_=>none
def rUnits:List AV→Option Spec
 |[.agg [.num .u64 h,.num .i64 top,.bool more],.num .u8 m,.bool neg,.num .i64 e]=>
  some ⟨some (-1073741824≤top∧top≤1073741824∧ -1073741824≤e∧e≤1073741824∧1≤e-top+64),
   .tup [.num .u64 ((Dy.unitsN ⟨h.toNat,top,more⟩ m neg e).1:Nat),.bool (Dy.unitsN ⟨h.toNat,top,more⟩ m neg e).2]⟩
 |_=>none
def tabB1:List (Nat×(List AV→Option Spec)):=(118,rOpen)::(174,rUnits)::tabB0
def rOver:List AV→Option Spec
 |[.num .u8 f,.num .u8 m,.bool neg]=>some ⟨none,.tup [.num .u64 (bif decide (Dy.errM f m=0) then Dy.overW f m neg else 0:Nat),.num .i64 (Dy.errM f m)]⟩
 |_=>none
def tabB2:List (Nat×(List AV→Option Spec)):=(61,rOver)::tabB1
def rWord:List AV→Option Spec
 |[.agg [.num .u64 h,.num .i64 top,.bool more],.num .u8 f,.agg [.num .i64 a,.num .i64 b,.num .i64 c],.num .u8 m,.bool neg]=>
  some ⟨some (Dy.errM f m=0∧a=Dy.rP f∧b=Dy.rL f∧c=Dy.rW f∧9223372036854775808≤h∧ -20000000≤top∧top≤20000000),
   .tup [.num .u64 ((Dy.wordN f m neg ⟨h.toNat,top,more⟩).1:Nat),.num .u8 (Dy.wordN f m neg ⟨h.toNat,top,more⟩).2]⟩
 |_=>none
def tabB3:List (Nat×(List AV→Option Spec)):=(136,rWord)::tabB2
def rRound:List AV→Option Spec
 |[.num .u8 f,.num .u8 m,.agg [.bool s,.dig [3] d,.num .i64 e]]=>
  some ⟨some (Dy.errM f m=0∧Dy.mayD ⟨s,d,e⟩=true),
   .tup [.num .u64 ((Dy.roundW f m ⟨s,d,e⟩).1:Nat),.num .u8 (Dy.roundW f m ⟨s,d,e⟩).2,.num .i64 0]⟩
 |_=>none
def rRootW:List AV→Option Spec
 |[.num .u8 f,.num .u8 m,.agg [.bool s,.dig [3] d,.num .i64 e]]=>
  some ⟨some (Dy.errM f m=0∧Dy.mayD ⟨s,d,e⟩=true∧s=false),
   .tup [.num .u64 ((Dy.rootW f m ⟨s,d,e⟩).1:Nat),.num .u8 (Dy.rootW f m ⟨s,d,e⟩).2,.num .i64 0]⟩
 |_=>none
def tabB4:List (Nat×(List AV→Option Spec)):=(156,rRound)::(71,rRootW)::tabB3
def pGood:List AV→Option Spec
 |[.num .u8 f,.agg [.num .u64 a,.num .u64 b]]=>some ⟨none,.num .i64 (if Dy.errW f a=0 then Dy.errW f b else Dy.errW f a)⟩
 |_=>none
def tabB5:List (Nat×(List AV→Option Spec)):=(62,pGood)::tabB4
end Go.AI

namespace Go.AI
open Dy IntKind
open Go Go.RowKit Go.Proofs
set_option linter.unusedVariables false
set_option maxRecDepth 100000
set_option maxHeartbeats 0
end Go.AI

namespace Go.Dy
theorem fit_len {d:Dyd} {L E k:Nat} (h:Fit d L E) (hk:L≤32*k):d.mag.length≤k:=by
 have hm:=may_dg (mayD_may (s:=d.neg) (m:=d.mag) (e:=d.exp) h.may)
 rw [←hm]
 exact length_dg_bl.2 (Nat.le_trans h.bits hk)
end Go.Dy
namespace Go.AI
open Go Go.RowKit Go.Proofs
set_option linter.unusedVariables false
set_option maxRecDepth 100000
set_option maxHeartbeats 1000000
end Go.AI

namespace Go.Dy
theorem cutR_cutV (z e:Int) {b:Nat} (hb:1≤b):(cutR (formZ z e) b).1=formZ (cutV z b) e:=by
 rw [cutR_formZ z e b (by omega)]
 simp only
 have ht:((bl z.natAbs:Int)-(b:Int)).toNat=bl z.natAbs-b:=by omega
 rw [ht,form_sgn,←formZ_mul]
 congr 1
 unfold cutV cutN
 rw [←pow_cast,sgn_mul]
theorem cut_form {d:Dyd} (h:mayD d=true) {b:Nat} (hb:1≤b) {V:Nat} (hV: -(V:Int)≤d.exp):(cutR d b).1=formZ (cutV (at_ d (-(V:Int))) b) (-(V:Int)):=by
 rw [←cutR_cutV _ _ hb,formZ_at h hV]
theorem cut_exp {d:Dyd} {b:Nat} (hb:1≤b) {V:Nat} (h:mayD d=true) (hV: -(V:Int)≤d.exp): -(V:Int)≤(cutR d b).1.exp:=by
 rw [cut_form h hb hV]
 exact exp_formZ (Int.le_refl _) (by omega)
theorem cut_between {lo R hi:Int} {b:Nat} (hb:1≤b) (h1:lo≤R) (h2:R≤hi) (hs:(0<lo)∨(hi<0)) (hc:cutV lo b=cutV hi b):cutV R b=cutV lo b:=by
 unfold cutV at hc ⊢
 rcases hs with h|h
 ·rw [decide_eq_false (by omega:¬lo<0),decide_eq_false (by omega:¬hi<0)] at hc
  rw [decide_eq_false (by omega:¬lo<0),decide_eq_false (by omega:¬R<0)]
  unfold sgn at hc ⊢
  simp only [Bool.false_eq_true,if_false] at hc ⊢
  have hc:=Int.ofNat_inj.1 hc
  rw [cutN_between hb (X:=lo.natAbs) (Y:=R.natAbs) (Z:=hi.natAbs) (by omega) (by omega) hc]
 ·rw [decide_eq_true (by omega:lo<0),decide_eq_true h] at hc
  rw [decide_eq_true (by omega:lo<0),decide_eq_true (by omega:R<0)]
  unfold sgn at hc ⊢
  simp only [if_true] at hc ⊢
  have hc:cutN hi.natAbs b=cutN lo.natAbs b:=by omega
  have:=cutN_between hb (X:=hi.natAbs) (Y:=R.natAbs) (Z:=lo.natAbs) (by omega) (by omega) hc
  rw [this,hc]
theorem sign_span {a c:Dyd} {V:Nat} (ha:mayD a=true) (hc:mayD c=true) (ea: -(V:Int)≤a.exp) (ec: -(V:Int)≤c.exp) (hle:at_ a (-(V:Int))≤at_ c (-(V:Int))):signS a c≠0 ↔ (0<at_ a (-(V:Int))∨at_ c (-(V:Int))<0):=by
 unfold signS
 rw [signD_at ha ea,signD_at hc ec]
 generalize at_ a (-(V:Int))=A at*
 generalize at_ c (-(V:Int))=C at*
 constructor
 ·intro h
  refine Decidable.byContradiction fun c=>h ?_
  unfold cmpZ
  have h1:¬0<A:=fun h=>c (.inl h)
  have h2:¬C<0:=fun h=>c (.inr h)
  rw [if_neg h1,if_neg h2]
  by_cases h3:A<0
  ·rw [if_pos h3]
   by_cases h4:0<C
   ·rw [if_pos h4,if_neg (by decide)]
   ·rw [if_neg h4,if_neg (by decide)]
  ·rw [if_neg h3,ite_self]
 ·rintro (h|h)
  ·rw [cmpZ_gt h,cmpZ_gt (by omega:0<C),if_pos rfl]
   decide
  ·rw [cmpZ_lt h,cmpZ_lt (by omega:A<0),if_pos rfl]
   decide
end Go.Dy

namespace Go.Dy
def rtE (A B V:Nat):Nat:=isq ((A*A+B*B)*2^(2*V))
def bigV (A B V:Nat):Nat:=isq ((rtE A B V+A*2^V)/2)
def smallV (A B V:Nat):Nat:=isq ((rtE A B V-A*2^V)/2)
theorem half_isq {E a:Nat}:2*(isq ((E+a)/2)*isq ((E+a)/2))≤E+a∧E+a<2*((isq ((E+a)/2)+1)*(isq ((E+a)/2)+1)):=by
 have h:=isq_spec ((E+a)/2)
 generalize isq ((E+a)/2)*isq ((E+a)/2)=x at*
 generalize (isq ((E+a)/2)+1)*(isq ((E+a)/2)+1)=y at*
 omega
theorem half_isq' {E a:Nat} (h:a≤E):2*(isq ((E-a)/2)*isq ((E-a)/2))+a≤E∧E<2*((isq ((E-a)/2)+1)*(isq ((E-a)/2)+1))+a:=by
 have h:=isq_spec ((E-a)/2)
 generalize isq ((E-a)/2)*isq ((E-a)/2)=x at*
 generalize (isq ((E-a)/2)+1)*(isq ((E-a)/2)+1)=y at*
 omega
theorem mul_abs_le {x y:Int} {a b:Nat} (hx:x.natAbs≤a) (hy:y.natAbs≤b):(x*y).natAbs≤a*b:=by
 rw [Int.natAbs_mul]
 exact Nat.mul_le_mul hx hy
theorem far_root {R E D2:Nat} {a:Int} {G M F:Nat} (hE1:E*E≤D2) (hE2:D2<(E+1)*(E+1)) (hns:∀k:Int,k*k≠(D2:Int)) (h1:2*((R:Int)*R)+a≤E) (h2:(E:Int)<2*(((R:Int)+1)*(R+1))+a)
  (hdiv:∀Z:Int,(2:Int)^M∣(2*((Z*2^G)*(Z*2^G))+a)*(2*((Z*2^G)*(Z*2^G))+a)-D2) (hf:60*(2^F*R*E)<2^M) (ht:12*(2^F*R)≤E) (hFR:2^F≤R) (Z:Int):2^F≤((R:Int)-Z*2^G).natAbs:=by
 refine Decidable.byContradiction fun c=> ?_
 have hd:=hdiv Z
 obtain ⟨d,hdd⟩:∃d:Int,Z*2^G=R+d:=⟨Z*2^G-R,by omega⟩
 rw [hdd] at hd c
 have f0:=Nat.two_pow_pos F
 generalize 2^F=f at*
 have hd1:d.natAbs≤f:=by omega
 have hRR:((R:Int)+1)*(R+1)=R*R+2*R+1:=by rw [Int.add_mul,Int.mul_add,Int.mul_one,Int.one_mul];omega
 rw [hRR] at h2
 have hTT:((R:Int)+d)*(R+d)=R*R+2*(R*d)+d*d:=by rw [Int.add_mul,Int.mul_add,Int.mul_add,Int.mul_comm d R];omega
 obtain ⟨w,hw⟩:∃w:Int,2*(((R:Int)+d)*(R+d))+a=E+w:=⟨2*(((R:Int)+d)*(R+d))+a-E,by omega⟩
 rw [hw] at hd
 have k1:((R:Int)*d).natAbs≤R*f:=mul_abs_le (by omega) hd1
 have k2:(d*d).natAbs≤f*f:=mul_abs_le hd1 hd1
 have k3:f*f≤f*R:=Nat.mul_le_mul_left f hFR
 have k4:1*R≤f*R:=Nat.mul_le_mul_right R f0
 have k5:R*f=f*R:=Nat.mul_comm R f
 rw [hTT] at hw
 have hR1:1≤R:=by omega
 have hwt:w.natAbs≤12*(f*R):=by
  generalize f*R=fr at*
  generalize (R:Int)*d=x at*
  generalize d*d=y at*
  generalize (R:Int)*R=z at*
  omega
 have hs:((E:Int)+w)*(E+w)=E*E+2*(E*w)+w*w:=by rw [Int.add_mul,Int.mul_add,Int.mul_add,Int.mul_comm w E];omega
 have m1:((E:Int)*w).natAbs≤E*(12*(f*R)):=mul_abs_le (by omega) hwt
 have m2:(w*w).natAbs≤E*(12*(f*R)):=mul_abs_le (Nat.le_trans hwt ht) hwt
 have m3:1*E≤(f*R)*E:=Nat.mul_le_mul_right E (by omega)
 have m4:E*(12*(f*R))=12*(f*R*E):=by rw [Nat.mul_left_comm,Nat.mul_comm E]
 have m5:(E+1)*(E+1)=E*E+2*E+1:=by rw [Nat.add_mul,Nat.mul_add,Nat.mul_one,Nat.one_mul];omega
 rw [m5] at hE2
 have m6:((E*E:Nat):Int)=(E:Int)*E:=by simp
 have hN:(((E:Int)+w)*(E+w)-D2).natAbs<2^M:=by
  rw [hs]
  rw [m4] at m1 m2
  generalize f*R*E=g at*
  generalize (E:Int)*w=x at*
  generalize w*w=y at*
  generalize (E:Int)*E=z at*
  generalize E*E=z' at*
  omega
 have hz:((E:Int)+w)*(E+w)-D2=0:=by
  refine Int.eq_zero_of_dvd_of_natAbs_lt_natAbs hd ?_
  rw [←pow_cast M,Int.natAbs_natCast]
  exact hN
 exact hns (E+w) (by omega)
theorem sq_four {D:Nat}:∀(V k:Nat),k*k=D*2^(2*V)→∃j,j*j=D
 |0,k,h=>⟨k,by simpa using h⟩
 |V+1,k,h=>by
  have e:2^(2*(V+1))=4*2^(2*V):=by rw [show 2*(V+1)=2*V+2 by omega,Nat.pow_add,Nat.mul_comm]
  rw [e,Nat.mul_left_comm] at h
  obtain ⟨j,hj⟩:∃j,k=2*j:=by
   rcases Nat.mod_two_eq_zero_or_one k with c|c
   ·exact ⟨k/2,by omega⟩
   ·exfalso
    have h1:k*k%2=1:=by rw [Nat.mul_mod,c]
    rw [h] at h1
    omega
  subst hj
  refine sq_four V j ?_
  have e2:2*j*(2*j)=4*(j*j):=by rw [Nat.mul_mul_mul_comm]
  rw [e2] at h
  omega
theorem square_scale {D V:Nat} (h:isq D*isq D≠D) (k:Int):k*k≠((D*2^(2*V):Nat):Int):=by
 intro e
 have e1:k.natAbs*k.natAbs=D*2^(2*V):=by
  have:=congrArg Int.natAbs e
  rw [Int.natAbs_mul,Int.natAbs_natCast] at this
  exact this
 obtain ⟨j,hj⟩:=sq_four V k.natAbs e1
 apply h
 rw [←hj,isq_uniq (Nat.le_refl _) (Nat.mul_lt_mul_of_lt_of_lt (by omega) (by omega))]
end Go.Dy

namespace Go.Dy
set_option maxRecDepth 100000
theorem i_mmm (a b c d:Int):a*b*(c*d)=a*c*(b*d):=by rw [Int.mul_assoc,Int.mul_left_comm b,←Int.mul_assoc]
theorem ipow_dvd {a b:Nat} (h:a≤b):(2:Int)^a∣2^b:=⟨2^(b-a),by rw [←Int.pow_add,show a+(b-a)=b by omega]⟩
structure Parts (A B V:Nat):Prop where
 big:10000≤V
 dA:2^(V-1074)∣A
 dB:2^(V-1074)∣B
 off:B≠0
 lA:A<2^(V+1024)
 lB:B<2^(V+1024)
section
variable {A B V:Nat}
theorem Parts.lowB (h:Parts A B V):2^(V-1074)≤B:=Nat.le_of_dvd (by have:=h.off;omega) h.dB
theorem sq_le_sq {x y:Nat} (h:x*x≤y*y):x≤y:=by
 rcases Nat.lt_or_ge y x with c|c
 ·have:=Nat.mul_lt_mul_of_lt_of_lt c c
  omega
 ·exact c
theorem pow_sq (k:Nat):2^k*2^k=2^(2*k):=by rw [←Nat.pow_add,show k+k=2*k by omega]
theorem rtE_spec:rtE A B V*rtE A B V≤(A*A+B*B)*2^(2*V)∧(A*A+B*B)*2^(2*V)<(rtE A B V+1)*(rtE A B V+1):=isq_spec _
theorem rtE_parts:(A*2^V)*(A*2^V)+(B*2^V)*(B*2^V)=(A*A+B*B)*2^(2*V):=by
 rw [Nat.mul_mul_mul_comm,Nat.mul_mul_mul_comm B,pow_sq,←Nat.add_mul]
theorem rtE_ge:A*2^V≤rtE A B V∧B*2^V≤rtE A B V:=by
 have h:= @rtE_parts A B V
 unfold rtE
 rw [←h]
 exact ⟨le_isq (by omega),le_isq (by omega)⟩
theorem rtE_le (h:Parts A B V):rtE A B V<2^(2*V+1025):=by
 refine isq_lt ?_
 rw [← @rtE_parts A B V]
 have e:2^(2*V+1025)=2^(V+1024)*2^V+2^(V+1024)*2^V:=by
  rw [←Nat.pow_add,show 2*V+1025=(V+1024+V)+1 by omega,Nat.pow_succ];omega
 have hp:=Nat.two_pow_pos V
 have h1:A*2^V<2^(V+1024)*2^V:=Nat.mul_lt_mul_of_pos_right h.lA hp
 have h2:B*2^V<2^(V+1024)*2^V:=Nat.mul_lt_mul_of_pos_right h.lB hp
 rw [e]
 generalize 2^(V+1024)*2^V=y at*
 generalize A*2^V=p at*
 generalize B*2^V=q at*
 have h3:=Nat.mul_lt_mul_of_lt_of_lt h1 h1
 have h4:=Nat.mul_lt_mul_of_lt_of_lt h2 h2
 have h5:(y+y)*(y+y)=4*(y*y):=by rw [show y+y=2*y by omega,Nat.mul_mul_mul_comm]
 omega
theorem rtE_low (h:Parts A B V):2^(2*V-1074)≤rtE A B V:=by
 have h1:=(@rtE_ge A B V).2
 have h2:=Nat.mul_le_mul_right (2^V) h.lowB
 rw [←Nat.pow_add] at h2
 have:=h.big
 rw [show V-1074+V=2*V-1074 by omega] at h2
 omega
theorem bigV_spec:2*(bigV A B V*bigV A B V)≤rtE A B V+A*2^V∧rtE A B V+A*2^V<2*((bigV A B V+1)*(bigV A B V+1)):=half_isq
theorem smallV_spec:2*(smallV A B V*smallV A B V)+A*2^V≤rtE A B V∧rtE A B V<2*((smallV A B V+1)*(smallV A B V+1))+A*2^V:=half_isq' (@rtE_ge A B V).1
theorem bigV_le (h:Parts A B V):bigV A B V<2^(V+513):=by
 rcases Nat.lt_or_ge (bigV A B V) (2^(V+513)) with c|c
 ·exact c
 ·exfalso
  have h1:=Nat.mul_le_mul c c
  rw [pow_sq] at h1
  have h2:=(@bigV_spec A B V).1
  have h3:=(@rtE_ge A B V).1
  have h4:=rtE_le h
  have h5:=Nat.pow_le_pow_right (n:=2) (by decide) (show 2*V+1025≤2*(V+513) by omega)
  omega
theorem smallV_le (h:Parts A B V):smallV A B V<2^(V+513):=by
 rcases Nat.lt_or_ge (smallV A B V) (2^(V+513)) with c|c
 ·exact c
 ·exfalso
  have h1:=Nat.mul_le_mul c c
  rw [pow_sq] at h1
  have h2:=(@smallV_spec A B V).1
  have h4:=rtE_le h
  have h5:=Nat.pow_le_pow_right (n:=2) (by decide) (show 2*V+1025≤2*(V+513) by omega)
  omega
theorem root_ge {x k:Nat} (h:2^(2*k)≤(x+1)*(x+1)) (hlt:2^(2*k)<(x+1)*(x+1)):2^k≤x:=by
 rw [←pow_sq] at hlt
 rcases Nat.lt_or_ge x (2^k) with c|c
 ·have:=Nat.mul_le_mul (show x+1≤2^k by omega) (show x+1≤2^k by omega)
  omega
 ·exact c
theorem bigV_low (h:Parts A B V):2^(V-538)≤bigV A B V:=by
 have h1:=(@bigV_spec A B V).2
 have h2:=rtE_low h
 have hb:=h.big
 have e:2^(2*V-1074)=4*2^(2*(V-538)):=by rw [show 2*V-1074=2*(V-538)+2 by omega,Nat.pow_add,Nat.mul_comm]
 exact root_ge (by omega) (by have:=Nat.two_pow_pos (2*(V-538));omega)
theorem smallV_low (h:Parts A B V):2^(V-1588)≤smallV A B V:=by
 have h1:=(@smallV_spec A B V).2
 have hb:=h.big
 have hs:=(@rtE_spec A B V).2
 rw [← @rtE_parts A B V] at hs
 have h3:=(@rtE_ge A B V).1
 have h4:=rtE_le h
 have h5:=Nat.mul_le_mul_right (2^V) h.lowB
 rw [←Nat.pow_add,show V-1074+V=2*V-1074 by omega] at h5
 have h6:=Nat.mul_le_mul h5 h5
 rw [pow_sq] at h6
 have hlow:2^(2*V-3175)+A*2^V≤rtE A B V:=by
  refine Decidable.byContradiction fun c=> ?_
  generalize A*2^V=a at*
  generalize B*2^V=b at*
  generalize rtE A B V=E at*
  obtain ⟨X,hX⟩:∃X,2^(2*V-3175)=X:=⟨_,rfl⟩
  rw [hX] at c
  have c1:E+1≤a+X:=by omega
  have c2:=Nat.mul_le_mul c1 c1
  have e1:(a+X)*(a+X)=a*a+X*(2*a+X):=by
   rw [Nat.add_mul,Nat.mul_add,Nat.mul_add X,Nat.mul_add X,Nat.mul_comm a X,Nat.mul_left_comm X 2]
   omega
  have hXs:X≤2^(2*V+1025):=by rw [←hX];exact Nat.pow_le_pow_right (by decide) (by omega)
  have c3:X*(2*a+X)≤X*(2^(2*V+1027)):=by
   refine Nat.mul_le_mul_left X ?_
   have e2:2^(2*V+1027)=4*2^(2*V+1025):=by rw [show 2*V+1027=(2*V+1025)+2 by omega,Nat.pow_add,Nat.mul_comm]
   omega
  rw [←hX,←Nat.pow_add,show 2*V-3175+(2*V+1027)=2*(2*V-1074) by omega,hX] at c3
  omega
 have e:2^(2*V-3175)=2*2^(2*(V-1588)):=by rw [show 2*V-3175=2*(V-1588)+1 by omega,Nat.pow_succ,Nat.mul_comm]
 exact root_ge (by omega) (by omega)
theorem far_any (h:Parts A B V) (hns:isq (A*A+B*B)*isq (A*A+B*B)≠A*A+B*B) {R:Nat} {a:Int} (ha:a=((A*2^V:Nat):Int)∨a= -((A*2^V:Nat):Int)) (h1:2*((R:Int)*R)+a≤rtE A B V) (h2:(rtE A B V:Int)<2*(((R:Int)+1)*(R+1))+a)
  (hlo:2^(V-1588)≤R) (hhi:R<2^(V+513)) (Z:Int):2^(bl R-4600)≤((R:Int)-Z*2^(bl R-65)).natAbs:=by
 have hV:=h.big
 have hE:= @rtE_spec A B V
 have hEl:=rtE_low h
 have hEh:=rtE_le h
 have hb1:V-1588<bl R:=lt_bl.2 hlo
 have hb2:bl R≤V+513:=bl_le.2 hhi
 have hRt:R<2^bl R:=lt_two_bl R
 have hRl:2^(bl R-1)≤R:=two_bl_le (by have:=Nat.two_pow_pos (V-1588);omega)
 generalize bl R=t at*
 refine far_root (M:=2*t+2*V-3568) hE.1 hE.2 (square_scale hns) h1 h2 (fun Z=> ?_) ?_ ?_ ?_ Z
 ·-- what divides the square less the number
  obtain ⟨α,hα⟩:=h.dA
  obtain ⟨β,hβ⟩:=h.dB
  have ea:∃α':Int,a=α'*2^(2*V-1074):=by
   have e0:((A*2^V:Nat):Int)=(α:Int)*2^(2*V-1074):=by
    rw [hα,←pow_cast,←Int.natCast_mul,Nat.mul_comm (2^(V-1074)) α,Nat.mul_assoc,←Nat.pow_add,show V-1074+V=2*V-1074 by omega]
   rcases ha with e|e
   ·exact ⟨α,by rw [e,e0]⟩
   ·exact ⟨-α,by rw [e,e0,Int.neg_mul]⟩
  have ed:a*a-(((A*A+B*B)*2^(2*V):Nat):Int)= -(((β*β:Nat):Int)*2^(2*(2*V-1074))):=by
   have e1:a*a=(((A*2^V)*(A*2^V):Nat):Int):=by
    rcases ha with e|e
    ·rw [e,←Int.natCast_mul]
    ·rw [e,Int.neg_mul_neg,←Int.natCast_mul]
   have e2:(B*2^V)*(B*2^V)=β*β*2^(2*(2*V-1074)):=by
    have e3:B*2^V=β*2^(2*V-1074):=by rw [hβ,Nat.mul_comm (2^(V-1074)) β,Nat.mul_assoc,←Nat.pow_add,show V-1074+V=2*V-1074 by omega]
    rw [e3,Nat.mul_mul_mul_comm,pow_sq]
   rw [e1,← @rtE_parts A B V,e2,←pow_cast,←Int.natCast_mul]
   omega
  obtain ⟨α',ea⟩:=ea
  obtain ⟨z,hz⟩:∃z:Int,Z*Z=z:=⟨_,rfl⟩
  have es:(Z*2^(t-65))*(Z*2^(t-65))=z*2^(2*(t-65)):=by
   rw [i_mmm,hz,←Int.pow_add,show t-65+(t-65)=2*(t-65) by omega]
  rw [es]
  have ex:(2*(z*2^(2*(t-65)))+a)*(2*(z*2^(2*(t-65)))+a)-(((A*A+B*B)*2^(2*V):Nat):Int)=
    4*((z*2^(2*(t-65)))*(z*2^(2*(t-65))))+4*((z*2^(2*(t-65)))*a)+(a*a-(((A*A+B*B)*2^(2*V):Nat):Int)):=by
   generalize z*2^(2*(t-65))=y
   rw [Int.add_mul,Int.mul_add,Int.mul_add,Int.mul_assoc,Int.mul_left_comm y 2 y,Int.mul_assoc 2 y a,Int.mul_comm a (2*y),Int.mul_assoc 2 y a]
   omega
  rw [ex,ed]
  refine Int.dvd_add (Int.dvd_add (Int.dvd_mul_of_dvd_right ?_) (Int.dvd_mul_of_dvd_right ?_)) ?_
  ·refine Int.dvd_trans (ipow_dvd (show 2*t+2*V-3568≤2*(t-65)+2*(t-65) by omega)) ?_
   rw [i_mmm,←Int.pow_add]
   exact Int.dvd_mul_left _ _
  ·refine Int.dvd_trans (ipow_dvd (show 2*t+2*V-3568≤2*(t-65)+(2*V-1074) by omega)) ?_
   rw [ea,i_mmm,←Int.pow_add]
   exact Int.dvd_mul_left _ _
  ·refine Int.dvd_neg.2 (Int.dvd_trans (ipow_dvd (show 2*t+2*V-3568≤2*(2*V-1074) by omega)) ?_)
   exact Int.dvd_mul_left _ _
 ·have e:2^(2*t+2*V-3568)=2^6*(2^(t-4600)*2^t*2^(2*V+1025))*2:=by
   rw [←Nat.pow_add,←Nat.pow_add,←Nat.pow_add,←Nat.pow_succ]
   congr 1
   omega
  have l1:2^(t-4600)*R≤2^(t-4600)*2^t:=Nat.mul_le_mul_left _ (by omega)
  have l2:2^(t-4600)*R*rtE A B V≤2^(t-4600)*2^t*2^(2*V+1025):=Nat.mul_le_mul l1 (by omega)
  rw [e]
  have p0:0<2^(t-4600)*2^t*2^(2*V+1025):=Nat.mul_pos (Nat.mul_pos (Nat.two_pow_pos _) (Nat.two_pow_pos _)) (Nat.two_pow_pos _)
  omega
 ·have l1:2^(t-4600)*R≤2^(t-4600)*2^t:=Nat.mul_le_mul_left _ (by omega)
  rw [←Nat.pow_add] at l1
  have l2:16*2^(t-4600+t)≤2^(2*V-1074):=by
   rw [show (16:Nat)=2^4 from rfl,←Nat.pow_add]
   exact Nat.pow_le_pow_right (by decide) (by omega)
  omega
 ·exact Nat.le_trans (Nat.pow_le_pow_right (by decide) (by omega)) hRl
theorem far_big (h:Parts A B V) (hns:isq (A*A+B*B)*isq (A*A+B*B)≠A*A+B*B) (Z:Int):2^(bl (bigV A B V)-4600)≤((bigV A B V:Int)-Z*2^(bl (bigV A B V)-65)).natAbs:=by
 have hs:= @bigV_spec A B V
 have hl:=bigV_low h
 have hb:=h.big
 have hp:=Nat.pow_le_pow_right (n:=2) (by decide) (show V-1588≤V-538 by omega)
 have e1:((bigV A B V*bigV A B V:Nat):Int)=(bigV A B V:Int)*bigV A B V:=by simp
 have e2:(((bigV A B V+1)*(bigV A B V+1):Nat):Int)=((bigV A B V:Int)+1)*(bigV A B V+1):=by simp
 exact far_any h hns (.inr rfl) (by omega) (by omega) (by omega) (bigV_le h) Z
theorem far_small (h:Parts A B V) (hns:isq (A*A+B*B)*isq (A*A+B*B)≠A*A+B*B) (Z:Int):2^(bl (smallV A B V)-4600)≤((smallV A B V:Int)-Z*2^(bl (smallV A B V)-65)).natAbs:=by
 have hs:= @smallV_spec A B V
 have e1:((smallV A B V*smallV A B V:Nat):Int)=(smallV A B V:Int)*smallV A B V:=by simp
 have e2:(((smallV A B V+1)*(smallV A B V+1):Nat):Int)=((smallV A B V:Int)+1)*(smallV A B V+1):=by simp
 exact far_any h hns (.inl rfl) (by omega) (by omega) (smallV_low h) (smallV_le h) Z
end
end Go.Dy

namespace Go.Dy
set_option maxRecDepth 100000
def near1 (m a b:Nat):Prop:=a*m≤b*(m+1)
theorem near1_refl (m a:Nat):near1 m a a:=Nat.mul_le_mul_left a (Nat.le_succ m)
theorem near1_le {m a b:Nat} (h:a≤b):near1 m a b:=Nat.mul_le_mul h (Nat.le_succ m)
theorem near1_mono {m m' a b:Nat} (hm:m'≤m) (h:near1 m a b):near1 m' a b:=by
 unfold near1 at*
 rcases Nat.le_total a b with c|c
 ·exact Nat.mul_le_mul c (Nat.le_succ m')
 ·obtain ⟨d,rfl⟩:∃d,a=b+d:=⟨a-b,by omega⟩
  rw [Nat.add_mul,Nat.mul_add,Nat.mul_one] at h ⊢
  have:=Nat.mul_le_mul_left d hm
  omega
theorem near1_trans {m a b c:Nat} (h:near1 (4*m) a b) (k:near1 (4*m) b c) (hm:0<m):near1 m a c:=by
 unfold near1 at*
 have h1:=Nat.mul_le_mul_right (4*m) h
 have h2:=Nat.mul_le_mul_right (4*m+1) k
 have e1:a*(4*m)*(4*m)=a*m*(16*m):=by rw [Nat.mul_left_comm a 4 m,Nat.mul_assoc 4 (a*m),Nat.mul_left_comm (a*m) 4 m,Nat.mul_left_comm (a*m) 16 m];omega
 have e2:b*(4*m+1)*(4*m)=b*(4*m)*(4*m+1):=by rw [Nat.mul_right_comm]
 have e3:c*(4*m+1)*(4*m+1)≤c*(m+1)*(16*m):=by
  rw [Nat.mul_assoc,Nat.mul_assoc]
  refine Nat.mul_le_mul_left c ?_
  have x1:(4*m+1)*(4*m+1)=16*(m*m)+8*m+1:=by
   rw [Nat.add_mul,Nat.mul_add,Nat.mul_one,Nat.one_mul,Nat.mul_mul_mul_comm]
   omega
  have x2:(m+1)*(16*m)=16*(m*m)+16*m:=by
   rw [Nat.add_mul,Nat.one_mul,Nat.mul_left_comm]
  omega
 rw [e1] at h1
 rw [e2] at h1
 exact Nat.le_of_mul_le_mul_right (Nat.le_trans h1 (Nat.le_trans h2 e3)) (by omega)
theorem near1_mul {m a b:Nat} (h:near1 m a b) (c:Nat):near1 m (a*c) (b*c):=by
 unfold near1 at*
 have:=Nat.mul_le_mul_right c h
 rw [Nat.mul_right_comm a c m,Nat.mul_right_comm b c]
 exact this
theorem near1_add {m a b:Nat} (h:near1 m a b) (c:Nat):near1 m (a+c) (b+c):=by
 unfold near1 at*
 rw [Nat.add_mul,Nat.add_mul,Nat.mul_add c,Nat.mul_one]
 omega
theorem near1_sqrt {m a b:Nat} (h:near1 m (a*a) (b*b)):near1 m a b:=by
 unfold near1 at*
 refine sq_le_sq ?_
 have h1:=Nat.mul_le_mul_right m h
 have h2:b*b*(m+1)*m≤b*b*(m+1)*(m+1):=Nat.mul_le_mul_left _ (Nat.le_succ m)
 have e1:a*m*(a*m)=a*a*m*m:=by rw [Nat.mul_mul_mul_comm,Nat.mul_assoc (a*a)]
 have e2:b*(m+1)*(b*(m+1))=b*b*(m+1)*(m+1):=by rw [Nat.mul_mul_mul_comm,Nat.mul_assoc (b*b)]
 rw [e1,e2]
 omega
theorem near1_step {m a b u:Nat} (h:a≤b+u) (hu:u*m≤b):near1 m a b:=by
 unfold near1
 have:=Nat.mul_le_mul_right m h
 rw [Nat.add_mul] at this
 rw [Nat.mul_add,Nat.mul_one]
 omega
theorem end_span {d:Dyd} (hd:mayD d=true) {X V n:Nat} (hV: -(V:Int)≤d.exp) (hX:at_ d (-(V:Int))=X) (h0:X≠0) (hn:1≤n):
  ∃LO HI:Nat,(at_ (endD d n false) (-(V:Int))=LO∧ -(V:Int)≤(endD d n false).exp)∧(at_ (endD d n true) (-(V:Int))=HI∧ -(V:Int)≤(endD d n true).exp)∧LO≤X∧X≤HI∧near1 (2^(n-1)) X LO∧near1 (2^(n-1)) HI X:=by
 have hf:∀high,endD d n high=formZ (rndQ (X:Int) (2^(bl X-n)) high) (-(V:Int)+((bl X-n:Nat):Int)):=by
  intro high
  have:=endD_formZ (X:Int) (-(V:Int)) n (by omega) high
  rw [←hX,formZ_at hd hV,hX,Int.natAbs_natCast,show ((bl X:Int)-(n:Int)).toNat=bl X-n by omega] at this
  exact this
 obtain ⟨t,ht⟩:∃t,bl X-n=t:=⟨_,rfl⟩
 rw [ht] at hf
 have hat:∀high,at_ (endD d n high) (-(V:Int))=rndQ (X:Int) (2^t) high*2^t:=by
  intro high
  rw [hf high,at_formZ (by omega)]
  congr 2
  omega
 have hex:∀high, -(V:Int)≤(endD d n high).exp:=fun high=>by rw [hf high];exact exp_formZ (by omega) (by omega)
 have hD:(0:Int)<2^t:=Int.pow_pos (by decide)
 have l:=rndQ_low (z:=(X:Int)) hD
 have u:=rndQ_high (z:=(X:Int)) hD
 have hlow:rndQ (X:Int) (2^t) false*2^t=((X/2^t*2^t:Nat):Int):=by
  show (X:Int)/2^t*2^t=_
  rw [←pow_cast]
  simp
 have hbig:t=0∨2^t*2^(n-1)≤X/2^t*2^t:=by
  by_cases c:t=0
  ·exact .inl c
  ·refine .inr ?_
   have hb:bl (X/2^t)=n:=by rw [bl_div_two_pow];omega
   have h1:2^(n-1)≤X/2^t:=lt_bl.1 (by omega)
   rw [Nat.mul_comm]
   exact Nat.mul_le_mul_right _ h1
 have hp:=pow_cast t
 obtain ⟨H,hH⟩:∃H:Nat,rndQ (X:Int) (2^t) true*2^t=H:=⟨(rndQ (X:Int) (2^t) true*2^t).toNat,by omega⟩
 refine ⟨X/2^t*2^t,H,⟨by rw [hat,hlow],hex _⟩,⟨by rw [hat,hH],hex _⟩,by omega,by omega,?_,?_⟩
 ·rcases hbig with c|c
  ·subst c
   refine near1_le ?_
   rw [Nat.pow_zero,Nat.div_one,Nat.mul_one]
   exact Nat.le_refl _
  ·exact near1_step (u:=2^t) (by omega) c
 ·rcases hbig with c|c
  ·rw [hH] at u
   subst c
   refine near1_le ?_
   rw [Int.pow_zero] at u
   omega
  ·exact near1_step (u:=2^t) (by omega) (by omega)
def rootU (d:Dyd) (n:Int):Dyd:=bif (rootF d n).2 then addD (rootF d n).1 (unitOf (topD (rootF d n).1-n)) else (rootF d n).1
theorem root_span {d:Dyd} (hd:mayD d=true) (hs:d.neg=false) (h0:d.mag≠[]) {V n X:Nat} (hn:1≤n) (hV: -(2*V:Int)≤d.exp-(2*n+4)) (hX:at_ d (-(2*V:Int))=X):
  ∃L u:Nat,(at_ (rootF d n).1 (-(V:Int))=L∧ -(V:Int)≤(rootF d n).1.exp)∧(at_ (rootU d n) (-(V:Int))=((if (rootF d n).2=true then L+u else L:Nat):Int)∧ -(V:Int)≤(rootU d n).exp)∧
   L*L≤X∧X<(L+u)*(L+u)∧u*2^(n-1)≤L∧L≠0∧((rootF d n).2=true ↔ L*L≠X)∧
   ∃(q:Nat) (x1:Int),(rootF d n).1=form false q x1∧bl q=n∧ -(V:Int)≤x1∧L=q*2^(x1+V).toNat∧u=2^(x1+V).toNat∧rootU d n=form false (if (rootF d n).2=true then q+1 else q) x1:=by
 obtain ⟨s,m,e⟩:=d
 simp only at hs h0 hV
 subst hs
 have hM:=val_ne (mayD_may hd) h0
 rw [at_mk] at hX
 have hX:((val m*2^(e - -(2*V:Int)).toNat:Nat):Int)=X:=hX
 have hX:val m*2^(e - -(2*V:Int)).toNat=X:=Int.ofNat.inj hX
 obtain ⟨z0,hz0⟩:∃z0:Int,(if 2*(n:Int)+2-(bl (val m):Int)<0 then (0:Int) else 2*(n:Int)+2-(bl (val m):Int))=z0:=⟨_,rfl⟩
 have hZ:rootZ (val m) e n=(evenS e z0).toNat:=by rw [←hz0];rfl
 obtain ⟨hZ1,hZ2,hZ3⟩:=evenS_spec e z0
 have hz1:0≤z0∧2*(n:Int)+2-(bl (val m):Int)≤z0∧z0≤2*n+2:=by
  rw [←hz0]
  split<;>omega
 obtain ⟨z,hz⟩:∃z:Nat,evenS e z0=z:=⟨(evenS e z0).toNat,by omega⟩
 rw [hz,Int.toNat_natCast] at hZ
 rw [hz] at hZ1 hZ2 hZ3
 obtain ⟨x0,hx0⟩:∃x0:Int,(e-(z:Int))/2=x0:=⟨_,rfl⟩
 have hxe:e-(z:Int)=2*x0:=by omega
 obtain ⟨p,hp⟩:∃p:Nat,x0+V=p:=⟨(x0+V).toNat,by omega⟩
 have hXp:X=val m*2^z*2^(2*p):=by
  rw [←hX,Nat.mul_assoc,←Nat.pow_add]
  congr 2
  omega
 have hbl:bl (val m*2^z)=bl (val m)+z:=bl_mul_two_pow hM z
 obtain ⟨q1,q2⟩:=isq_spec (val m*2^z)
 have hQn:2^n≤isq (val m*2^z):=by
  refine le_isq ?_
  rw [pow_sq]
  exact lt_bl.1 (by omega)
 have hrF:rootF ⟨false,m,e⟩ n=(form false (isq (val m*2^z)/2^(bl (isq (val m*2^z))-n)) (x0+((bl (isq (val m*2^z))-n:Nat):Int)),
   decide (isq (val m*2^z)%2^(bl (isq (val m*2^z))-n)≠0)||decide (isq (val m*2^z)*isq (val m*2^z)≠val m*2^z)):=by
  unfold rootF
  simp only
  rw [hZ,hx0,cutR_form _ _ _ _ (by omega),show ((bl (isq (val m*2^z)):Int)-(n:Int)).toNat=bl (isq (val m*2^z))-n by omega]
 unfold rootU
 rw [hrF]
 generalize isq (val m*2^z)=Q at*
 generalize val m*2^z=N at*
 have hbq:n<bl Q:=lt_bl.2 hQn
 obtain ⟨t,ht⟩:∃t,bl Q-n=t:=⟨_,rfl⟩
 rw [ht]
 have hbt:bl (Q/2^t)=n:=by rw [bl_div_two_pow];omega
 have hq0:Q/2^t≠0:=fun c=>by rw [c,bl_zero] at hbt;omega
 have hq1:2^(n-1)≤Q/2^t:=lt_bl.1 (by omega)
 have hdm:=Nat.div_add_mod Q (2^t)
 have hml:=Nat.mod_lt Q (Nat.two_pow_pos t)
 have hpp:=Nat.two_pow_pos p
 have htop:topD (form false (Q/2^t) (x0+(t:Int)))-(n:Int)=x0+t:=by rw [top_form hq0,hbt];omega
 have hat:at_ (form false (Q/2^t) (x0+(t:Int))) (-(V:Int))=((Q/2^t*2^t*2^p:Nat):Int):=by
  rw [at_form (by omega),show (x0+(t:Int) - -(V:Int)).toNat=t+p by omega,Nat.pow_add,←Nat.mul_assoc]
  rfl
 have hex: -(V:Int)≤(form false (Q/2^t) (x0+(t:Int))).exp:=exp_form (by omega) (by omega)
 have huat:at_ (unitOf (x0+(t:Int))) (-(V:Int))=((2^t*2^p:Nat):Int):=by
  rw [unit_at _ _ (by omega),show (x0+(t:Int) - -(V:Int)).toNat=t+p by omega,Int.pow_add]
  simp
 have huex: -(V:Int)≤(unitOf (x0+(t:Int))).exp:=by show -(V:Int)≤x0+t;omega
 have hp2:2^(2*p)=2^p*2^p:=(pow_sq p).symm
 rw [hp2] at hXp
 refine ⟨Q/2^t*2^t*2^p,2^t*2^p,⟨hat,hex⟩,?_,?_,?_,?_,?_,?_,Q/2^t,x0+t,rfl,hbt,by omega,?_,?_,?_⟩
 ·simp only
  cases hl:(decide (Q%2^t≠0)||decide (Q*Q≠N)) with
  |true=>
   simp only [cond_true,if_true]
   rw [htop]
   refine ⟨?_,?_⟩
   ·rw [at_addD hex huex,hat,huat,Int.natCast_add]
   ·rw [addD_at hex huex]
    exact exp_formZ (Int.le_refl _) (by omega)
  |false=>
   simp only [cond_false,Bool.false_eq_true,if_false]
   exact ⟨hat,hex⟩
 ·rw [hXp,Nat.mul_mul_mul_comm]
  refine Nat.mul_le_mul_right _ (Nat.le_trans (Nat.mul_le_mul ?_ ?_) q1)
  ·exact Nat.div_mul_le_self _ _
  ·exact Nat.div_mul_le_self _ _
 ·rw [hXp,←Nat.add_mul,Nat.mul_mul_mul_comm]
  refine Nat.mul_lt_mul_of_pos_right (Nat.lt_of_lt_of_le q2 (Nat.mul_le_mul ?_ ?_)) (Nat.mul_pos hpp hpp)
  ·rw [Nat.mul_comm (Q/2^t)];omega
  ·rw [Nat.mul_comm (Q/2^t)];omega
 ·rw [Nat.mul_comm (2^t*2^p),←Nat.mul_assoc]
  exact Nat.mul_le_mul_right _ (Nat.mul_le_mul_right _ hq1)
 ·exact Nat.mul_ne_zero (Nat.mul_ne_zero hq0 (Nat.pos_iff_ne_zero.1 (Nat.two_pow_pos t))) (Nat.pos_iff_ne_zero.1 hpp)
 ·simp only [Bool.or_eq_true,decide_eq_true_eq]
  rw [hXp,Nat.mul_mul_mul_comm]
  constructor
  ·rintro h c
   have c:=Nat.eq_of_mul_eq_mul_right (Nat.mul_pos hpp hpp) c
   have l1:Q/2^t*2^t≤Q:=Nat.div_mul_le_self _ _
   have l2:=Nat.mul_le_mul l1 l1
   have e1:Q/2^t*2^t=Q:=by
    refine Nat.le_antisymm l1 (sq_le_sq ?_)
    omega
   rw [e1] at c
   rcases h with h|h
   ·rw [Nat.mul_comm] at e1
    omega
   ·exact h c
  ·intro h
   by_cases c:Q%2^t=0
   ·refine .inr fun c2=>h ?_
    have e1:Q/2^t*2^t=Q:=by rw [Nat.mul_comm];omega
    rw [e1,c2]
   ·exact .inl c
 ·rw [show (x0+(t:Int)+V).toNat=t+p by omega,Nat.pow_add,←Nat.mul_assoc]
 ·rw [show (x0+(t:Int)+V).toNat=t+p by omega,Nat.pow_add]
 ·simp only
  cases hl:(decide (Q%2^t≠0)||decide (Q*Q≠N)) with
  |true=>
   simp only [cond_true,if_true]
   rw [htop,addD_at (u:=x0+t) (exp_form_pos hq0) (by show x0+(t:Int)≤x0+t;omega),at_form (by omega),unit_at _ _ (by omega),Int.sub_self]
   show formZ (sgn false (Q/2^t*2^0)+2^0) _=_
   rw [Nat.pow_zero,Nat.mul_one,Int.pow_zero,form_sgn]
   rfl
  |false=>
   simp only [cond_false,Bool.false_eq_true,if_false]
theorem quo_span {a b:Dyd} (ha:mayD a=true) (hb:mayD b=true) (hsa:a.neg=false) (hsb:b.neg=false) (h0:b.mag≠[]) {V n X P:Nat} (hn:1≤n) (hXa:at_ a (-(V:Int))=X) (hPb:at_ b (-(V:Int))=P) (hVa: -(V:Int)≤a.exp) (hVb: -(V:Int)≤b.exp)
  (h1: -(V:Int)≤a.exp-b.exp-(n+1+bl (val b.mag))) (h2: -(2*V:Int)≤a.exp-(n+1+bl (val b.mag))):
  ∃QL QH:Nat,(at_ (quoE a b n false) (-(V:Int))=QL∧ -(V:Int)≤(quoE a b n false).exp)∧(at_ (quoE a b n true) (-(V:Int))=QH∧ -(V:Int)≤(quoE a b n true).exp)∧
   QL*P≤X*2^V∧X*2^V≤QH*P∧(a.mag≠[]→near1 (2^(n-1)) (X*2^V) (QL*P)∧near1 (2^(n-1)) (QH*P) (X*2^V)):=by
 obtain ⟨s,m,e⟩:=a
 obtain ⟨s',m',e'⟩:=b
 simp only at hsa hsb h0 hVa hVb h1 h2
 subst hsa hsb
 rw [at_mk] at hXa hPb
 have hXa:val m*2^(e - -(V:Int)).toNat=X:=Int.ofNat.inj hXa
 have hPb:val m'*2^(e' - -(V:Int)).toNat=P:=Int.ofNat.inj hPb
 obtain ⟨S,t,k1,k2,k3,k4,k5⟩:=quoE_formZ ha hb h0 (n:=(n:Int)) (by omega)
 have hN:=val_ne (mayD_may hb) h0
 have hD:0<val m'*2^t:=Nat.mul_pos (by omega) (Nat.two_pow_pos t)
 obtain ⟨w,hw⟩:∃w:Nat,e-e'-(S:Int)+t+V=w:=⟨(e-e'-(S:Int)+t+V).toNat,by omega⟩
 obtain ⟨k,hk⟩:∃k:Nat,e-(S:Int)+2*V=k:=⟨(e-(S:Int)+2*V).toNat,by omega⟩
 rw [Int.toNat_natCast] at k1
 have hs:sgn false (val m*2^S)=((val m*2^S:Nat):Int):=rfl
 rw [hs] at k5
 have hat:∀high,at_ (quoE ⟨false,m,e⟩ ⟨false,m',e'⟩ n high) (-(V:Int))=rndQ ((val m*2^S:Nat):Int) ((val m'*2^t:Nat):Int) high*2^w:=by
  intro high
  rw [k5 high,at_formZ (by omega)]
  congr 2
  omega
 have hex:∀high, -(V:Int)≤(quoE ⟨false,m,e⟩ ⟨false,m',e'⟩ n high).exp:=fun high=>by rw [k5 high];exact exp_formZ (by omega) (by omega)
 have hXk:X*2^V=val m*2^S*2^k:=by
  rw [←hXa,Nat.mul_assoc,Nat.mul_assoc,←Nat.pow_add,←Nat.pow_add]
  congr 2
  omega
 have hPk:∀q:Nat,q*2^w*P=q*(val m'*2^t)*2^k:=by
  intro q
  rw [←hPb,Nat.mul_assoc,Nat.mul_left_comm (2^w),←Nat.pow_add,Nat.mul_assoc,Nat.mul_assoc (val m'),←Nat.pow_add]
  congr 3
  omega
 have l:=rndQ_low (z:=((val m*2^S:Nat):Int)) (D:=((val m'*2^t:Nat):Int)) (by omega)
 have u:=rndQ_high (z:=((val m*2^S:Nat):Int)) (D:=((val m'*2^t:Nat):Int)) (by omega)
 generalize val m*2^S=N at*
 generalize val m'*2^t=D at*
 have hlo:rndQ ((N:Nat):Int) (D:Int) false=((N/D:Nat):Int):=by
  show (N:Int)/D=_
  simp
 have hhi:∃q:Nat,rndQ ((N:Nat):Int) (D:Int) true=q:=by
  refine ⟨(rndQ ((N:Nat):Int) (D:Int) true).toNat,?_⟩
  have h:0≤rndQ ((N:Nat):Int) (D:Int) true:=by
   refine Int.le_of_mul_le_mul_right (a:=(D:Int)) ?_ (by omega)
   omega
  omega
 obtain ⟨q,hq⟩:=hhi
 rw [hlo] at l
 rw [hq] at u
 have pw:=pow_cast w
 have l1:N/D*D≤N∧N<N/D*D+D:=by
  have:=l
  rw [←Int.natCast_mul] at this
  omega
 have u1:N≤q*D∧q*D<N+D:=by
  have:=u
  rw [←Int.natCast_mul] at this
  omega
 refine ⟨N/D*2^w,q*2^w,⟨by rw [hat,hlo];simp,hex _⟩,⟨by rw [hat,hq];simp,hex _⟩,?_,?_,fun hm=> ?_⟩
 ·rw [hPk,hXk]
  exact Nat.mul_le_mul_right _ l1.1
 ·rw [hPk,hXk]
  exact Nat.mul_le_mul_right _ u1.1
 ·have k1:=k1 (val_ne (mayD_may ha) hm)
  rw [hPk,hPk,hXk]
  have hDl:D*2^(n-1)≤N/D*D:=by
   rw [Nat.mul_comm]
   exact Nat.mul_le_mul_right _ ((Nat.le_div_iff_mul_le hD).2 k1)
  exact ⟨near1_mul (near1_step (u:=D) (by omega) hDl) _,near1_mul (near1_step (u:=D) (by omega) (by rw [Nat.mul_comm] at k1;exact k1)) _⟩
end Go.Dy
