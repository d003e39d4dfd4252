/- My texts AVsettle, AIsettle, AIhalf0, AIsq0, in one. -/
import Derived.Test.YtogikmlfkhofoaaGreatDoorK16
open Decidable renaming byContradiction→G8
open Int renaming lt_or_le→Z3,tdiv_eq_ediv_of_nonneg→N8
open Nat renaming lt_of_le_of_lt→L8,lt_or_ge→L4,mul_comm→B6,mul_le_mul→I7,mul_le_mul_right→C0,mul_lt_mul_of_lt_of_lt→K3,mul_pos→U9,pow_add→B8,pow_succ→I5,two_pow_pos→A9
namespace Go.AI
open Dy Dyd IntKind
open Go Go.RowKit Go.Proofs
set_option linter.unusedVariables false
set_option maxRecDepth 100000
set_option maxHeartbeats 0
def C8x (G F:Nat) (n:Int):List AV→Option LR
 |[.cref [1,2] [.bool t,.dig [1,2] l,.num .i64 i,.bool t',.dig [1,2] l',.num .i64 i'],.cref [1,2] [.num .u8 f,.num .u8 m,.num .u64 a,.num .u64 b,.num .u8 k,.num .u8 k',.bool g,.bool h,.bool s,.dig [1,2] d,.num .i64 e,.bool s',.dig [1,2] d',.num .i64 e'],.cref [1,2] [.bool u,.dig [1,2] v,.num .i64 w,.bool u',.dig [1,2] v',.num .i64 w'],.cref [1,2] [.bool o,.dig [1,2] q,.num .i64 r,.bool o',.dig [1,2] q',.num .i64 r']]=>
 if F=80 then
 if G=86 then some (.need (Dy.capOk ⟨s,d,e⟩ ⟨s',d',e'⟩ ⟨t,l,i⟩ ⟨t',l',i'⟩ ⟨u,v,w⟩ ⟨u',v',w'⟩ ⟨o,q,r⟩ ⟨o',q',r'⟩ h∧104≤n∧n≤100000) (.done .ret [.fn G [.cref [1,2] [.fn F [.cref [1,2] [.bool t,.dig [1,2] l,.num .i64 i,.bool t',.dig [1,2] l',.num .i64 i'],.cref [1,2] [.num .u8 f,.num .u8 m,.num .u64 a,.num .u64 b,.num .u8 k,.num .u8 k',.bool g,.bool h,.bool s,.dig [1,2] d,.num .i64 e,.bool s',.dig [1,2] d',.num .i64 e'],.cref [1,2] [.bool u,.dig [1,2] v,.num .i64 w,.bool u',.dig [1,2] v',.num .i64 w'],.cref [1,2] [.bool o,.dig [1,2] q,.num .i64 r,.bool o',.dig [1,2] q',.num .i64 r']]]],
 .boxv [.bool (Dy.K4 (Dy.reD ⟨s,d,e⟩ ⟨s',d',e'⟩)).neg,.dig [2] (Dy.K4 (Dy.reD ⟨s,d,e⟩ ⟨s',d',e'⟩)).mag,.num .i64 (Dy.K4 (Dy.reD ⟨s,d,e⟩ ⟨s',d',e'⟩)).exp],.num .i64 (Dy.RR (fun n=>Dy.okR (Dy.Z4 ⟨s,d,e⟩ ⟨s',d',e'⟩ n) (Dy.g9 ⟨s,d,e⟩ ⟨s',d',e'⟩ n) 64) 10 n)]))
 else if G=87 then some (.need (Dy.capOk ⟨s,d,e⟩ ⟨s',d',e'⟩ ⟨t,l,i⟩ ⟨t',l',i'⟩ ⟨u,v,w⟩ ⟨u',v',w'⟩ ⟨o,q,r⟩ ⟨o',q',r'⟩ h∧104≤n∧n≤100000) (.done .ret [.fn G [.cref [1,2] [.fn F [.cref [1,2] [.bool t,.dig [1,2] l,.num .i64 i,.bool t',.dig [1,2] l',.num .i64 i'],.cref [1,2] [.num .u8 f,.num .u8 m,.num .u64 a,.num .u64 b,.num .u8 k,.num .u8 k',.bool g,.bool h,.bool s,.dig [1,2] d,.num .i64 e,.bool s',.dig [1,2] d',.num .i64 e'],.cref [1,2] [.bool u,.dig [1,2] v,.num .i64 w,.bool u',.dig [1,2] v',.num .i64 w'],.cref [1,2] [.bool o,.dig [1,2] q,.num .i64 r,.bool o',.dig [1,2] q',.num .i64 r']]]],
 .boxv [.bool (Dy.K4 (Dy.imD ⟨s,d,e⟩ ⟨s',d',e'⟩)).neg,.dig [2] (Dy.K4 (Dy.imD ⟨s,d,e⟩ ⟨s',d',e'⟩)).mag,.num .i64 (Dy.K4 (Dy.imD ⟨s,d,e⟩ ⟨s',d',e'⟩)).exp],.num .i64 (Dy.RR (fun n=>Dy.okR (Dy.EY ⟨s,d,e⟩ ⟨s',d',e'⟩ n) (Dy.FO ⟨s,d,e⟩ ⟨s',d',e'⟩ n) 64) 10 n)]))
 else none
 else none
 |_=>none
def C95:List AV→Option LR
 |[.fn G [.cref [1,2] [.fn F cs]],.boxv [.bool x,.dig [2] y,.num .i64 z],.num .i64 n]=>C8x G F n cs
 |_=>none
def IG:List (Nat×Keep):=[(0,.same),(2,.same),(3,.same)]
def GW:=lam [(3,.spec IG C95)]
theorem YN (t:Bool) (l:List Nat) (i:Int) (t':Bool) (l':List Nat) (i':Int) (f:Int) (m:Int) (a:Int) (b:Int) (k:Int) (k':Int) (g:Bool) (h:Bool) (s:Bool) (d:List Nat) (e:Int) (s':Bool) (d':List Nat) (e':Int) (u:Bool) (v:List Nat) (w:Int) (u':Bool) (v':List Nat) (w':Int) (o:Bool) (q:List Nat) (r:Int) (o':Bool) (q':List Nat) (r':Int) (Q:AV→Prop):(evF Tryz.prog (look OF) GW false Tryz.f85 [AV.fn (86:Nat) [.cref [1] [AV.fn (80:Nat) [.cref [1] [.bool t,.dig [1] l,.num .i64 i,.bool t',.dig [1] l',.num .i64 i'],.cref [1] [.num .u8 f,.num .u8 m,.num .u64 a,.num .u64 b,.num .u8 k,.num .u8 k',.bool g,.bool h,.bool s,.dig [1] d,.num .i64 e,.bool s',.dig [1] d',.num .i64 e'],.cref [1] [.bool u,.dig [1] v,.num .i64 w,.bool u',.dig [1] v',.num .i64 w'],.cref [1] [.bool o,.dig [1] q,.num .i64 r,.bool o',.dig [1] q',.num .i64 r']]]]] Q)=((capOk (mk s d e) (mk s' d' e') (mk t l i) (mk t' l' i') (mk u v w) (mk u' v' w') (mk o q r) (mk o' q' r') h∧(104:Int)≤104∧(104:Int)≤100000)∧Q (.agg [.bool (K4 (reD (mk s d e) (mk s' d' e'))).neg,.dig [0] (K4 (reD (mk s d e) (mk s' d' e'))).mag,.num .i64 (K4 (reD (mk s d e) (mk s' d' e'))).exp])):=by kernel_rfl
theorem DI (t:Bool) (l:List Nat) (i:Int) (t':Bool) (l':List Nat) (i':Int) (f:Int) (m:Int) (a:Int) (b:Int) (k:Int) (k':Int) (g:Bool) (h:Bool) (s:Bool) (d:List Nat) (e:Int) (s':Bool) (d':List Nat) (e':Int) (u:Bool) (v:List Nat) (w:Int) (u':Bool) (v':List Nat) (w':Int) (o:Bool) (q:List Nat) (r:Int) (o':Bool) (q':List Nat) (r':Int) (x:Bool) (y:List Nat) (z:Int) (n:Int) (K:Exit→List AV→Prop):(M7 Tryz.prog (look OF) GW (1:Nat) (30:Nat) IG (D8 Tryz.f85 (0:Nat)) [AV.fn (86:Nat) [.cref [1,2] [AV.fn (80:Nat) [.cref [1,2] [.bool t,.dig [1,2] l,.num .i64 i,.bool t',.dig [1,2] l',.num .i64 i'],.cref [1,2] [.num .u8 f,.num .u8 m,.num .u64 a,.num .u64 b,.num .u8 k,.num .u8 k',.bool g,.bool h,.bool s,.dig [1,2] d,.num .i64 e,.bool s',.dig [1,2] d',.num .i64 e'],.cref [1,2] [.bool u,.dig [1,2] v,.num .i64 w,.bool u',.dig [1,2] v',.num .i64 w'],.cref [1,2] [.bool o,.dig [1,2] q,.num .i64 r,.bool o',.dig [1,2] q',.num .i64 r']]]],.boxv [.bool x,.dig [2] y,.num .i64 z],.num .i64 n] K)=((capOk (mk s d e) (mk s' d' e') (mk t l i) (mk t' l' i') (mk u v w) (mk u' v' w') (mk o q r) (mk o' q' r') h∧(20≤if 6000<n then (6000:Int) else n)∧(if 6000<n then (6000:Int) else n)≤8192)∧dyF (Z4 (mk s d e) (mk s' d' e') (if 6000<n then (6000:Int) else n)) fun b1 l2 n3=>dyF (g9 (mk s d e) (mk s' d' e') (if 6000<n then (6000:Int) else n)) fun b4 l5 n6=>∀b7,b7=true→bif !b7 then K Exit.normal [AV.fn (86:Nat) [.cref [1,2] [AV.fn (80:Nat) [.cref [1,2] [.bool t,.dig [1,2] l,.num .i64 i,.bool t',.dig [1,2] l',.num .i64 i'],.cref [1,2] [.num .u8 f,.num .u8 m,.num .u64 a,.num .u64 b,.num .u8 k,.num .u8 k',.bool g,.bool h,.bool s,.dig [1,2] d,.num .i64 e,.bool s',.dig [1,2] d',.num .i64 e'],.cref [1,2] [.bool u,.dig [1,2] v,.num .i64 w,.bool u',.dig [1,2] v',.num .i64 w'],.cref [1,2] [.bool o,.dig [1,2] q,.num .i64 r,.bool o',.dig [1,2] q',.num .i64 r']]]],.boxv [.bool x,.dig [2] y,.num .i64 z],.num .i64 (i64.wrap (n+i64.wrap (i64.wrap (n.tdiv (2:Int))+200)))] else (mid (mk b1 l2 n3)∧mid (mk b4 l5 n6)∧(1:Int)≤64∧(64:Int)≤8192)∧dyF (bif decide (y5 (mk b1 l2 n3) (mk b4 l5 n6)=0) then L7 else (F6 (mk b1 l2 n3) (64:Int)).fst) fun b8 l9 n10=>∀b11,b11=(!decide (y5 (mk b1 l2 n3) (mk b4 l5 n6)=0)&&decide (Y1 (F6 (mk b1 l2 n3) (64:Int)).fst (F6 (mk b4 l5 n6) (64:Int)).fst=0))→bif b11 then (mid (mk b8 l9 n10)∧A5 (K4 (mk b8 l9 n10))=true)∧dyF (K4 (mk b8 l9 n10)) fun b12 l13 n14=>K Exit.ret [AV.fn (86:Nat) [.cref [1,2] [AV.fn (80:Nat) [.cref [1,2] [.bool t,.dig [1,2] l,.num .i64 i,.bool t',.dig [1,2] l',.num .i64 i'],.cref [1,2] [.num .u8 f,.num .u8 m,.num .u64 a,.num .u64 b,.num .u8 k,.num .u8 k',.bool g,.bool h,.bool s,.dig [1,2] d,.num .i64 e,.bool s',.dig [1,2] d',.num .i64 e'],.cref [1,2] [.bool u,.dig [1,2] v,.num .i64 w,.bool u',.dig [1,2] v',.num .i64 w'],.cref [1,2] [.bool o,.dig [1,2] q,.num .i64 r,.bool o',.dig [1,2] q',.num .i64 r']]]],.boxv [.bool b12,.dig [2] l13,.num .i64 n14],.num .i64 n] else K Exit.normal [AV.fn (86:Nat) [.cref [1,2] [AV.fn (80:Nat) [.cref [1,2] [.bool t,.dig [1,2] l,.num .i64 i,.bool t',.dig [1,2] l',.num .i64 i'],.cref [1,2] [.num .u8 f,.num .u8 m,.num .u64 a,.num .u64 b,.num .u8 k,.num .u8 k',.bool g,.bool h,.bool s,.dig [1,2] d,.num .i64 e,.bool s',.dig [1,2] d',.num .i64 e'],.cref [1,2] [.bool u,.dig [1,2] v,.num .i64 w,.bool u',.dig [1,2] v',.num .i64 w'],.cref [1,2] [.bool o,.dig [1,2] q,.num .i64 r,.bool o',.dig [1,2] q',.num .i64 r']]]],.boxv [.bool x,.dig [2] y,.num .i64 z],.num .i64 (i64.wrap (n+i64.wrap (i64.wrap (n.tdiv (2:Int))+200)))]):=by kernel_rfl
theorem YO (t:Bool) (l:List Nat) (i:Int) (t':Bool) (l':List Nat) (i':Int) (f:Int) (m:Int) (a:Int) (b:Int) (k:Int) (k':Int) (g:Bool) (h:Bool) (s:Bool) (d:List Nat) (e:Int) (s':Bool) (d':List Nat) (e':Int) (u:Bool) (v:List Nat) (w:Int) (u':Bool) (v':List Nat) (w':Int) (o:Bool) (q:List Nat) (r:Int) (o':Bool) (q':List Nat) (r':Int) (Q:AV→Prop):(evF Tryz.prog (look OF) GW false Tryz.f85 [AV.fn (87:Nat) [.cref [1] [AV.fn (80:Nat) [.cref [1] [.bool t,.dig [1] l,.num .i64 i,.bool t',.dig [1] l',.num .i64 i'],.cref [1] [.num .u8 f,.num .u8 m,.num .u64 a,.num .u64 b,.num .u8 k,.num .u8 k',.bool g,.bool h,.bool s,.dig [1] d,.num .i64 e,.bool s',.dig [1] d',.num .i64 e'],.cref [1] [.bool u,.dig [1] v,.num .i64 w,.bool u',.dig [1] v',.num .i64 w'],.cref [1] [.bool o,.dig [1] q,.num .i64 r,.bool o',.dig [1] q',.num .i64 r']]]]] Q)=((capOk (mk s d e) (mk s' d' e') (mk t l i) (mk t' l' i') (mk u v w) (mk u' v' w') (mk o q r) (mk o' q' r') h∧(104:Int)≤104∧(104:Int)≤100000)∧Q (.agg [.bool (K4 (imD (mk s d e) (mk s' d' e'))).neg,.dig [0] (K4 (imD (mk s d e) (mk s' d' e'))).mag,.num .i64 (K4 (imD (mk s d e) (mk s' d' e'))).exp])):=by kernel_rfl
theorem DJ (t:Bool) (l:List Nat) (i:Int) (t':Bool) (l':List Nat) (i':Int) (f:Int) (m:Int) (a:Int) (b:Int) (k:Int) (k':Int) (g:Bool) (h:Bool) (s:Bool) (d:List Nat) (e:Int) (s':Bool) (d':List Nat) (e':Int) (u:Bool) (v:List Nat) (w:Int) (u':Bool) (v':List Nat) (w':Int) (o:Bool) (q:List Nat) (r:Int) (o':Bool) (q':List Nat) (r':Int) (x:Bool) (y:List Nat) (z:Int) (n:Int) (K:Exit→List AV→Prop):(M7 Tryz.prog (look OF) GW (1:Nat) (30:Nat) IG (D8 Tryz.f85 (0:Nat)) [AV.fn (87:Nat) [.cref [1,2] [AV.fn (80:Nat) [.cref [1,2] [.bool t,.dig [1,2] l,.num .i64 i,.bool t',.dig [1,2] l',.num .i64 i'],.cref [1,2] [.num .u8 f,.num .u8 m,.num .u64 a,.num .u64 b,.num .u8 k,.num .u8 k',.bool g,.bool h,.bool s,.dig [1,2] d,.num .i64 e,.bool s',.dig [1,2] d',.num .i64 e'],.cref [1,2] [.bool u,.dig [1,2] v,.num .i64 w,.bool u',.dig [1,2] v',.num .i64 w'],.cref [1,2] [.bool o,.dig [1,2] q,.num .i64 r,.bool o',.dig [1,2] q',.num .i64 r']]]],.boxv [.bool x,.dig [2] y,.num .i64 z],.num .i64 n] K)=((capOk (mk s d e) (mk s' d' e') (mk t l i) (mk t' l' i') (mk u v w) (mk u' v' w') (mk o q r) (mk o' q' r') h∧(20≤if 6000<n then (6000:Int) else n)∧(if 6000<n then (6000:Int) else n)≤8192)∧dyF (EY (mk s d e) (mk s' d' e') (if 6000<n then (6000:Int) else n)) fun b1 l2 n3=>dyF (FO (mk s d e) (mk s' d' e') (if 6000<n then (6000:Int) else n)) fun b4 l5 n6=>∀b7,b7=true→bif !b7 then K Exit.normal [AV.fn (87:Nat) [.cref [1,2] [AV.fn (80:Nat) [.cref [1,2] [.bool t,.dig [1,2] l,.num .i64 i,.bool t',.dig [1,2] l',.num .i64 i'],.cref [1,2] [.num .u8 f,.num .u8 m,.num .u64 a,.num .u64 b,.num .u8 k,.num .u8 k',.bool g,.bool h,.bool s,.dig [1,2] d,.num .i64 e,.bool s',.dig [1,2] d',.num .i64 e'],.cref [1,2] [.bool u,.dig [1,2] v,.num .i64 w,.bool u',.dig [1,2] v',.num .i64 w'],.cref [1,2] [.bool o,.dig [1,2] q,.num .i64 r,.bool o',.dig [1,2] q',.num .i64 r']]]],.boxv [.bool x,.dig [2] y,.num .i64 z],.num .i64 (i64.wrap (n+i64.wrap (i64.wrap (n.tdiv (2:Int))+200)))] else (mid (mk b1 l2 n3)∧mid (mk b4 l5 n6)∧(1:Int)≤64∧(64:Int)≤8192)∧dyF (bif decide (y5 (mk b1 l2 n3) (mk b4 l5 n6)=0) then L7 else (F6 (mk b1 l2 n3) (64:Int)).fst) fun b8 l9 n10=>∀b11,b11=(!decide (y5 (mk b1 l2 n3) (mk b4 l5 n6)=0)&&decide (Y1 (F6 (mk b1 l2 n3) (64:Int)).fst (F6 (mk b4 l5 n6) (64:Int)).fst=0))→bif b11 then (mid (mk b8 l9 n10)∧A5 (K4 (mk b8 l9 n10))=true)∧dyF (K4 (mk b8 l9 n10)) fun b12 l13 n14=>K Exit.ret [AV.fn (87:Nat) [.cref [1,2] [AV.fn (80:Nat) [.cref [1,2] [.bool t,.dig [1,2] l,.num .i64 i,.bool t',.dig [1,2] l',.num .i64 i'],.cref [1,2] [.num .u8 f,.num .u8 m,.num .u64 a,.num .u64 b,.num .u8 k,.num .u8 k',.bool g,.bool h,.bool s,.dig [1,2] d,.num .i64 e,.bool s',.dig [1,2] d',.num .i64 e'],.cref [1,2] [.bool u,.dig [1,2] v,.num .i64 w,.bool u',.dig [1,2] v',.num .i64 w'],.cref [1,2] [.bool o,.dig [1,2] q,.num .i64 r,.bool o',.dig [1,2] q',.num .i64 r']]]],.boxv [.bool b12,.dig [2] l13,.num .i64 n14],.num .i64 n] else K Exit.normal [AV.fn (87:Nat) [.cref [1,2] [AV.fn (80:Nat) [.cref [1,2] [.bool t,.dig [1,2] l,.num .i64 i,.bool t',.dig [1,2] l',.num .i64 i'],.cref [1,2] [.num .u8 f,.num .u8 m,.num .u64 a,.num .u64 b,.num .u8 k,.num .u8 k',.bool g,.bool h,.bool s,.dig [1,2] d,.num .i64 e,.bool s',.dig [1,2] d',.num .i64 e'],.cref [1,2] [.bool u,.dig [1,2] v,.num .i64 w,.bool u',.dig [1,2] v',.num .i64 w'],.cref [1,2] [.bool o,.dig [1,2] q,.num .i64 r,.bool o',.dig [1,2] q',.num .i64 r']]]],.boxv [.bool x,.dig [2] y,.num .i64 z],.num .i64 (i64.wrap (n+i64.wrap (i64.wrap (n.tdiv (2:Int))+200)))]):=by kernel_rfl
end Go.AI

namespace Go.Dy
def D2j:Nat→Int
 |0=>4700
 |1=>3000
 |2=>1867
 |3=>1112
 |4=>608
 |5=>272
 |_=>104
theorem A5w (f:Nat) {n:Int} (h:D2j (f+1)≤n) (h0:104≤n):f≤5→D2j f≤n+(n/2+200):=by
 intro hf
 match f,hf with
 |0,_=>have h:(3000:Int)≤n:=h;show (4700:Int)≤_;omega
 |1,_=>have h:(1867:Int)≤n:=h;show (3000:Int)≤_;omega
 |2,_=>have h:(1112:Int)≤n:=h;show (1867:Int)≤_;omega
 |3,_=>have h:(608:Int)≤n:=h;show (1112:Int)≤_;omega
 |4,_=>have h:(272:Int)≤n:=h;show (608:Int)≤_;omega
 |5,_=>have h:(104:Int)≤n:=h;show (272:Int)≤_;omega
end Go.Dy
namespace Go.AI
open Go Go.RowKit Go.Proofs
set_option linter.unusedVariables false
set_option maxRecDepth 100000
set_option maxHeartbeats 1000000
theorem D3h {t:Bool} {l:List Nat} {i:Int} {t':Bool} {l':List Nat} {i':Int} {f m a b k k':Int} {g h:Bool} {s:Bool} {d:List Nat} {e:Int} {s':Bool} {d':List Nat} {e':Int} {u:Bool} {v:List Nat} {w:Int} {u':Bool} {v':List Nat} {w':Int} {o:Bool} {q:List Nat} {r:Int} {o':Bool} {q':List Nat} {r':Int} {x:Bool} {y:List Nat} {z n:Int} {K:Exit→List AV→Prop} (c:Dy.capOk ⟨s,d,e⟩ ⟨s',d',e'⟩ ⟨t,l,i⟩ ⟨t',l',i'⟩ ⟨u,v,w⟩ ⟨u',v',w'⟩ ⟨o,q,r⟩ ⟨o',q',r'⟩ h) (n1:104≤n) (n2:n≤100000)
  (hK:K .ret [.fn 86 [.cref [1,2] [.fn 80 [.cref [1,2] [.bool t,.dig [1,2] l,.num .i64 i,.bool t',.dig [1,2] l',.num .i64 i'],.cref [1,2] [.num .u8 f,.num .u8 m,.num .u64 a,.num .u64 b,.num .u8 k,.num .u8 k',.bool g,.bool h,.bool s,.dig [1,2] d,.num .i64 e,.bool s',.dig [1,2] d',.num .i64 e'],.cref [1,2] [.bool u,.dig [1,2] v,.num .i64 w,.bool u',.dig [1,2] v',.num .i64 w'],.cref [1,2] [.bool o,.dig [1,2] q,.num .i64 r,.bool o',.dig [1,2] q',.num .i64 r']]]],.boxv [.bool (Dy.K4 (Dy.reD ⟨s,d,e⟩ ⟨s',d',e'⟩)).neg,.dig [2] (Dy.K4 (Dy.reD ⟨s,d,e⟩ ⟨s',d',e'⟩)).mag,.num .i64 (Dy.K4 (Dy.reD ⟨s,d,e⟩ ⟨s',d',e'⟩)).exp],.num .i64 (Dy.RR (fun n=>Dy.okR (Dy.Z4 ⟨s,d,e⟩ ⟨s',d',e'⟩ n) (Dy.g9 ⟨s,d,e⟩ ⟨s',d',e'⟩ n) 64) 10 n)]):
  ∃j,P4 Tryz.prog (look OF) GW 1 30 IG (D8 Tryz.f85 0) j [.fn 86 [.cref [1,2] [.fn 80 [.cref [1,2] [.bool t,.dig [1,2] l,.num .i64 i,.bool t',.dig [1,2] l',.num .i64 i'],.cref [1,2] [.num .u8 f,.num .u8 m,.num .u64 a,.num .u64 b,.num .u8 k,.num .u8 k',.bool g,.bool h,.bool s,.dig [1,2] d,.num .i64 e,.bool s',.dig [1,2] d',.num .i64 e'],.cref [1,2] [.bool u,.dig [1,2] v,.num .i64 w,.bool u',.dig [1,2] v',.num .i64 w'],.cref [1,2] [.bool o,.dig [1,2] q,.num .i64 r,.bool o',.dig [1,2] q',.num .i64 r']]]],.boxv [.bool x,.dig [2] y,.num .i64 z],.num .i64 n] K:=by
 have hb:=(Dy.B8a c.off).1
 have key:∀(fu:Nat) (n:Int),fu≤6→Dy.D2j fu≤n→104≤n→n≤100000→K .ret [.fn 86 [.cref [1,2] [.fn 80 [.cref [1,2] [.bool t,.dig [1,2] l,.num .i64 i,.bool t',.dig [1,2] l',.num .i64 i'],.cref [1,2] [.num .u8 f,.num .u8 m,.num .u64 a,.num .u64 b,.num .u8 k,.num .u8 k',.bool g,.bool h,.bool s,.dig [1,2] d,.num .i64 e,.bool s',.dig [1,2] d',.num .i64 e'],.cref [1,2] [.bool u,.dig [1,2] v,.num .i64 w,.bool u',.dig [1,2] v',.num .i64 w'],.cref [1,2] [.bool o,.dig [1,2] q,.num .i64 r,.bool o',.dig [1,2] q',.num .i64 r']]]],.boxv [.bool (Dy.K4 (Dy.reD ⟨s,d,e⟩ ⟨s',d',e'⟩)).neg,.dig [2] (Dy.K4 (Dy.reD ⟨s,d,e⟩ ⟨s',d',e'⟩)).mag,.num .i64 (Dy.K4 (Dy.reD ⟨s,d,e⟩ ⟨s',d',e'⟩)).exp],.num .i64 (Dy.RR (fun n=>Dy.okR (Dy.Z4 ⟨s,d,e⟩ ⟨s',d',e'⟩ n) (Dy.g9 ⟨s,d,e⟩ ⟨s',d',e'⟩ n) 64) (fu+4) n)]→
   ∃j,P4 Tryz.prog (look OF) GW 1 30 IG (D8 Tryz.f85 0) j [.fn 86 [.cref [1,2] [.fn 80 [.cref [1,2] [.bool t,.dig [1,2] l,.num .i64 i,.bool t',.dig [1,2] l',.num .i64 i'],.cref [1,2] [.num .u8 f,.num .u8 m,.num .u64 a,.num .u64 b,.num .u8 k,.num .u8 k',.bool g,.bool h,.bool s,.dig [1,2] d,.num .i64 e,.bool s',.dig [1,2] d',.num .i64 e'],.cref [1,2] [.bool u,.dig [1,2] v,.num .i64 w,.bool u',.dig [1,2] v',.num .i64 w'],.cref [1,2] [.bool o,.dig [1,2] q,.num .i64 r,.bool o',.dig [1,2] q',.num .i64 r']]]],.boxv [.bool x,.dig [2] y,.num .i64 z],.num .i64 n] K:=by
  intro fu
  induction fu with
  |zero=>
   intro n hf hbn n1 n2 hK
   obtain ⟨N,hN⟩:∃N:Nat,(if (6000:Int)<n then (6000:Int) else n)=N:=⟨(if (6000:Int)<n then (6000:Int) else n).toNat,by split<;>omega⟩
   have hN2:(20:Int)≤N∧(N:Int)≤6000:=by
    rw [←hN]
    split<;>omega
   have hNn:(n≤6000∧(N:Int)=n)∨(6000<n∧(N:Int)=6000):=by
    rcases Z3 6000 n with c1|c1
    ·exact .inr ⟨c1,by rw [←hN,if_pos c1]⟩
    ·exact .inl ⟨c1,by rw [←hN,if_neg (by omega)]⟩
   have hmin:min n 6000=(N:Int):=by rw [←hN];split<;>omega
   obtain ⟨m1,m2,k1,k2⟩:=Dy.B5l c.off (n:=N) (by omega) (by omega)
   cases hq:Dy.okR (Dy.Z4 ⟨s,d,e⟩ ⟨s',d',e'⟩ (N:Int)) (Dy.g9 ⟨s,d,e⟩ ⟨s',d',e'⟩ (N:Int)) 64 with
   |true=>
    have hs:Dy.RR (fun n=>Dy.okR (Dy.Z4 ⟨s,d,e⟩ ⟨s',d',e'⟩ n) (Dy.g9 ⟨s,d,e⟩ ⟨s',d',e'⟩ n) 64) (0+4) n=n:=by
     show (if _ then n else _)=n
     rw [if_pos]
     show Dy.okR (Dy.Z4 ⟨s,d,e⟩ ⟨s',d',e'⟩ (min n 6000)) (Dy.g9 ⟨s,d,e⟩ ⟨s',d',e'⟩ (min n 6000)) 64=true
     rw [hmin]
     exact hq
    rw [hs] at hK
    have hs2:=(Dy.PI.1 hq).1
    refine D4 ?_
    rw [DI,hN]
    refine ⟨⟨c,by omega,by omega⟩,B4 fun b1 l2 n3 d1=>B4 fun b4 l5 n6 d4=> ?_⟩
    rintro _ rfl
    refine B1 rfl ?_
    rw [d1,d4]
    refine ⟨⟨m1,m2,by decide,by decide⟩,?_⟩
    rw [show decide (Dy.y5 (Dy.Z4 ⟨s,d,e⟩ ⟨s',d',e'⟩ (N:Int)) (Dy.g9 ⟨s,d,e⟩ ⟨s',d',e'⟩ (N:Int))=0)=false from decide_eq_false hs2,cond_false]
    refine B4 fun b8 l9 n10 d8=> ?_
    rw [k1 hq] at d8
    rintro _ rfl
    have hq2:=hq
    unfold Dy.okR at hq2
    rw [show decide (Dy.y5 (Dy.Z4 ⟨s,d,e⟩ ⟨s',d',e'⟩ (N:Int)) (Dy.g9 ⟨s,d,e⟩ ⟨s',d',e'⟩ (N:Int))=0)=false from decide_eq_false hs2] at hq2
    refine B5 hq2 ?_
    rw [d8]
    refine ⟨hb,B4 fun b12 l13 n14 d12=> ?_⟩
    rw [←d12] at hK
    exact hK
   |false=>
    have hlt:n<4700:=by
     refine G8 fun c2=> ?_
     have h2:=k2 (by omega)
     rw [h2] at hq
     cases hq
    exact absurd (show (4700:Int)≤n from hbn) (by omega)
  |succ fu ih=>
   intro n hf hbn n1 n2 hK
   obtain ⟨N,hN⟩:∃N:Nat,(if (6000:Int)<n then (6000:Int) else n)=N:=⟨(if (6000:Int)<n then (6000:Int) else n).toNat,by split<;>omega⟩
   have hN2:(20:Int)≤N∧(N:Int)≤6000:=by
    rw [←hN]
    split<;>omega
   have hNn:(n≤6000∧(N:Int)=n)∨(6000<n∧(N:Int)=6000):=by
    rcases Z3 6000 n with c1|c1
    ·exact .inr ⟨c1,by rw [←hN,if_pos c1]⟩
    ·exact .inl ⟨c1,by rw [←hN,if_neg (by omega)]⟩
   have hmin:min n 6000=(N:Int):=by rw [←hN];split<;>omega
   obtain ⟨m1,m2,k1,k2⟩:=Dy.B5l c.off (n:=N) (by omega) (by omega)
   cases hq:Dy.okR (Dy.Z4 ⟨s,d,e⟩ ⟨s',d',e'⟩ (N:Int)) (Dy.g9 ⟨s,d,e⟩ ⟨s',d',e'⟩ (N:Int)) 64 with
   |true=>
    have hs:Dy.RR (fun n=>Dy.okR (Dy.Z4 ⟨s,d,e⟩ ⟨s',d',e'⟩ n) (Dy.g9 ⟨s,d,e⟩ ⟨s',d',e'⟩ n) 64) (fu+1+4) n=n:=by
     show (if _ then n else _)=n
     rw [if_pos]
     show Dy.okR (Dy.Z4 ⟨s,d,e⟩ ⟨s',d',e'⟩ (min n 6000)) (Dy.g9 ⟨s,d,e⟩ ⟨s',d',e'⟩ (min n 6000)) 64=true
     rw [hmin]
     exact hq
    rw [hs] at hK
    have hs2:=(Dy.PI.1 hq).1
    refine D4 ?_
    rw [DI,hN]
    refine ⟨⟨c,by omega,by omega⟩,B4 fun b1 l2 n3 d1=>B4 fun b4 l5 n6 d4=> ?_⟩
    rintro _ rfl
    refine B1 rfl ?_
    rw [d1,d4]
    refine ⟨⟨m1,m2,by decide,by decide⟩,?_⟩
    rw [show decide (Dy.y5 (Dy.Z4 ⟨s,d,e⟩ ⟨s',d',e'⟩ (N:Int)) (Dy.g9 ⟨s,d,e⟩ ⟨s',d',e'⟩ (N:Int))=0)=false from decide_eq_false hs2,cond_false]
    refine B4 fun b8 l9 n10 d8=> ?_
    rw [k1 hq] at d8
    rintro _ rfl
    have hq2:=hq
    unfold Dy.okR at hq2
    rw [show decide (Dy.y5 (Dy.Z4 ⟨s,d,e⟩ ⟨s',d',e'⟩ (N:Int)) (Dy.g9 ⟨s,d,e⟩ ⟨s',d',e'⟩ (N:Int))=0)=false from decide_eq_false hs2] at hq2
    refine B5 hq2 ?_
    rw [d8]
    refine ⟨hb,B4 fun b12 l13 n14 d12=> ?_⟩
    rw [←d12] at hK
    exact hK
   |false=>
    have hlt:n<4700:=by
     refine G8 fun c2=> ?_
     have h2:=k2 (by omega)
     rw [h2] at hq
     cases hq
    have hs:Dy.RR (fun n=>Dy.okR (Dy.Z4 ⟨s,d,e⟩ ⟨s',d',e'⟩ n) (Dy.g9 ⟨s,d,e⟩ ⟨s',d',e'⟩ n) 64) (fu+1+4) n=Dy.RR (fun n=>Dy.okR (Dy.Z4 ⟨s,d,e⟩ ⟨s',d',e'⟩ n) (Dy.g9 ⟨s,d,e⟩ ⟨s',d',e'⟩ n) 64) (fu+4) (n+(n/2+200)):=by
     show (if _ then n else _)=_
     rw [if_neg]
     show¬Dy.okR (Dy.Z4 ⟨s,d,e⟩ ⟨s',d',e'⟩ (min n 6000)) (Dy.g9 ⟨s,d,e⟩ ⟨s',d',e'⟩ (min n 6000)) 64=true
     rw [hmin,hq]
     decide
    rw [hs] at hK
    have ht:n.tdiv 2=n/2:=N8 (by omega)
    have hw:IntKind.i64.wrap (n+IntKind.i64.wrap (IntKind.i64.wrap (n.tdiv 2)+200))=n+(n/2+200):=by
     rw [ht,wrap_i64 (n:=n/2) (by omega) (by omega),wrap_i64 (n:=n/2+200) (by omega) (by omega),wrap_i64 (by omega) (by omega)]
    obtain ⟨j,hj⟩:=ih (n+(n/2+200)) (by omega) (Dy.A5w fu hbn n1 (by omega)) (by omega) (by omega) hK
    refine E9 j ?_
    rw [DI,hN,hw]
    refine ⟨⟨c,by omega,by omega⟩,B4 fun b1 l2 n3 d1=>B4 fun b4 l5 n6 d4=> ?_⟩
    rintro _ rfl
    refine B1 rfl ?_
    rw [d1,d4]
    refine ⟨⟨m1,m2,by decide,by decide⟩,B4 fun b8 l9 n10 d8=> ?_⟩
    rintro _ rfl
    exact B1 hq hj
 exact key 6 n (by decide) n1 n1 n2 hK
theorem D3i {t:Bool} {l:List Nat} {i:Int} {t':Bool} {l':List Nat} {i':Int} {f m a b k k':Int} {g h:Bool} {s:Bool} {d:List Nat} {e:Int} {s':Bool} {d':List Nat} {e':Int} {u:Bool} {v:List Nat} {w:Int} {u':Bool} {v':List Nat} {w':Int} {o:Bool} {q:List Nat} {r:Int} {o':Bool} {q':List Nat} {r':Int} {x:Bool} {y:List Nat} {z n:Int} {K:Exit→List AV→Prop} (c:Dy.capOk ⟨s,d,e⟩ ⟨s',d',e'⟩ ⟨t,l,i⟩ ⟨t',l',i'⟩ ⟨u,v,w⟩ ⟨u',v',w'⟩ ⟨o,q,r⟩ ⟨o',q',r'⟩ h) (n1:104≤n) (n2:n≤100000)
  (hK:K .ret [.fn 87 [.cref [1,2] [.fn 80 [.cref [1,2] [.bool t,.dig [1,2] l,.num .i64 i,.bool t',.dig [1,2] l',.num .i64 i'],.cref [1,2] [.num .u8 f,.num .u8 m,.num .u64 a,.num .u64 b,.num .u8 k,.num .u8 k',.bool g,.bool h,.bool s,.dig [1,2] d,.num .i64 e,.bool s',.dig [1,2] d',.num .i64 e'],.cref [1,2] [.bool u,.dig [1,2] v,.num .i64 w,.bool u',.dig [1,2] v',.num .i64 w'],.cref [1,2] [.bool o,.dig [1,2] q,.num .i64 r,.bool o',.dig [1,2] q',.num .i64 r']]]],.boxv [.bool (Dy.K4 (Dy.imD ⟨s,d,e⟩ ⟨s',d',e'⟩)).neg,.dig [2] (Dy.K4 (Dy.imD ⟨s,d,e⟩ ⟨s',d',e'⟩)).mag,.num .i64 (Dy.K4 (Dy.imD ⟨s,d,e⟩ ⟨s',d',e'⟩)).exp],.num .i64 (Dy.RR (fun n=>Dy.okR (Dy.EY ⟨s,d,e⟩ ⟨s',d',e'⟩ n) (Dy.FO ⟨s,d,e⟩ ⟨s',d',e'⟩ n) 64) 10 n)]):
  ∃j,P4 Tryz.prog (look OF) GW 1 30 IG (D8 Tryz.f85 0) j [.fn 87 [.cref [1,2] [.fn 80 [.cref [1,2] [.bool t,.dig [1,2] l,.num .i64 i,.bool t',.dig [1,2] l',.num .i64 i'],.cref [1,2] [.num .u8 f,.num .u8 m,.num .u64 a,.num .u64 b,.num .u8 k,.num .u8 k',.bool g,.bool h,.bool s,.dig [1,2] d,.num .i64 e,.bool s',.dig [1,2] d',.num .i64 e'],.cref [1,2] [.bool u,.dig [1,2] v,.num .i64 w,.bool u',.dig [1,2] v',.num .i64 w'],.cref [1,2] [.bool o,.dig [1,2] q,.num .i64 r,.bool o',.dig [1,2] q',.num .i64 r']]]],.boxv [.bool x,.dig [2] y,.num .i64 z],.num .i64 n] K:=by
 have hb:=(Dy.B8a c.off).2
 have key:∀(fu:Nat) (n:Int),fu≤6→Dy.D2j fu≤n→104≤n→n≤100000→K .ret [.fn 87 [.cref [1,2] [.fn 80 [.cref [1,2] [.bool t,.dig [1,2] l,.num .i64 i,.bool t',.dig [1,2] l',.num .i64 i'],.cref [1,2] [.num .u8 f,.num .u8 m,.num .u64 a,.num .u64 b,.num .u8 k,.num .u8 k',.bool g,.bool h,.bool s,.dig [1,2] d,.num .i64 e,.bool s',.dig [1,2] d',.num .i64 e'],.cref [1,2] [.bool u,.dig [1,2] v,.num .i64 w,.bool u',.dig [1,2] v',.num .i64 w'],.cref [1,2] [.bool o,.dig [1,2] q,.num .i64 r,.bool o',.dig [1,2] q',.num .i64 r']]]],.boxv [.bool (Dy.K4 (Dy.imD ⟨s,d,e⟩ ⟨s',d',e'⟩)).neg,.dig [2] (Dy.K4 (Dy.imD ⟨s,d,e⟩ ⟨s',d',e'⟩)).mag,.num .i64 (Dy.K4 (Dy.imD ⟨s,d,e⟩ ⟨s',d',e'⟩)).exp],.num .i64 (Dy.RR (fun n=>Dy.okR (Dy.EY ⟨s,d,e⟩ ⟨s',d',e'⟩ n) (Dy.FO ⟨s,d,e⟩ ⟨s',d',e'⟩ n) 64) (fu+4) n)]→
   ∃j,P4 Tryz.prog (look OF) GW 1 30 IG (D8 Tryz.f85 0) j [.fn 87 [.cref [1,2] [.fn 80 [.cref [1,2] [.bool t,.dig [1,2] l,.num .i64 i,.bool t',.dig [1,2] l',.num .i64 i'],.cref [1,2] [.num .u8 f,.num .u8 m,.num .u64 a,.num .u64 b,.num .u8 k,.num .u8 k',.bool g,.bool h,.bool s,.dig [1,2] d,.num .i64 e,.bool s',.dig [1,2] d',.num .i64 e'],.cref [1,2] [.bool u,.dig [1,2] v,.num .i64 w,.bool u',.dig [1,2] v',.num .i64 w'],.cref [1,2] [.bool o,.dig [1,2] q,.num .i64 r,.bool o',.dig [1,2] q',.num .i64 r']]]],.boxv [.bool x,.dig [2] y,.num .i64 z],.num .i64 n] K:=by
  intro fu
  induction fu with
  |zero=>
   intro n hf hbn n1 n2 hK
   obtain ⟨N,hN⟩:∃N:Nat,(if (6000:Int)<n then (6000:Int) else n)=N:=⟨(if (6000:Int)<n then (6000:Int) else n).toNat,by split<;>omega⟩
   have hN2:(20:Int)≤N∧(N:Int)≤6000:=by
    rw [←hN]
    split<;>omega
   have hNn:(n≤6000∧(N:Int)=n)∨(6000<n∧(N:Int)=6000):=by
    rcases Z3 6000 n with c1|c1
    ·exact .inr ⟨c1,by rw [←hN,if_pos c1]⟩
    ·exact .inl ⟨c1,by rw [←hN,if_neg (by omega)]⟩
   have hmin:min n 6000=(N:Int):=by rw [←hN];split<;>omega
   obtain ⟨m1,m2,k1,k2⟩:=Dy.B2r c.off (n:=N) (by omega) (by omega)
   cases hq:Dy.okR (Dy.EY ⟨s,d,e⟩ ⟨s',d',e'⟩ (N:Int)) (Dy.FO ⟨s,d,e⟩ ⟨s',d',e'⟩ (N:Int)) 64 with
   |true=>
    have hs:Dy.RR (fun n=>Dy.okR (Dy.EY ⟨s,d,e⟩ ⟨s',d',e'⟩ n) (Dy.FO ⟨s,d,e⟩ ⟨s',d',e'⟩ n) 64) (0+4) n=n:=by
     show (if _ then n else _)=n
     rw [if_pos]
     show Dy.okR (Dy.EY ⟨s,d,e⟩ ⟨s',d',e'⟩ (min n 6000)) (Dy.FO ⟨s,d,e⟩ ⟨s',d',e'⟩ (min n 6000)) 64=true
     rw [hmin]
     exact hq
    rw [hs] at hK
    have hs2:=(Dy.PI.1 hq).1
    refine D4 ?_
    rw [DJ,hN]
    refine ⟨⟨c,by omega,by omega⟩,B4 fun b1 l2 n3 d1=>B4 fun b4 l5 n6 d4=> ?_⟩
    rintro _ rfl
    refine B1 rfl ?_
    rw [d1,d4]
    refine ⟨⟨m1,m2,by decide,by decide⟩,?_⟩
    rw [show decide (Dy.y5 (Dy.EY ⟨s,d,e⟩ ⟨s',d',e'⟩ (N:Int)) (Dy.FO ⟨s,d,e⟩ ⟨s',d',e'⟩ (N:Int))=0)=false from decide_eq_false hs2,cond_false]
    refine B4 fun b8 l9 n10 d8=> ?_
    rw [k1 hq] at d8
    rintro _ rfl
    have hq2:=hq
    unfold Dy.okR at hq2
    rw [show decide (Dy.y5 (Dy.EY ⟨s,d,e⟩ ⟨s',d',e'⟩ (N:Int)) (Dy.FO ⟨s,d,e⟩ ⟨s',d',e'⟩ (N:Int))=0)=false from decide_eq_false hs2] at hq2
    refine B5 hq2 ?_
    rw [d8]
    refine ⟨hb,B4 fun b12 l13 n14 d12=> ?_⟩
    rw [←d12] at hK
    exact hK
   |false=>
    have hlt:n<4700:=by
     refine G8 fun c2=> ?_
     have h2:=k2 (by omega)
     rw [h2] at hq
     cases hq
    exact absurd (show (4700:Int)≤n from hbn) (by omega)
  |succ fu ih=>
   intro n hf hbn n1 n2 hK
   obtain ⟨N,hN⟩:∃N:Nat,(if (6000:Int)<n then (6000:Int) else n)=N:=⟨(if (6000:Int)<n then (6000:Int) else n).toNat,by split<;>omega⟩
   have hN2:(20:Int)≤N∧(N:Int)≤6000:=by
    rw [←hN]
    split<;>omega
   have hNn:(n≤6000∧(N:Int)=n)∨(6000<n∧(N:Int)=6000):=by
    rcases Z3 6000 n with c1|c1
    ·exact .inr ⟨c1,by rw [←hN,if_pos c1]⟩
    ·exact .inl ⟨c1,by rw [←hN,if_neg (by omega)]⟩
   have hmin:min n 6000=(N:Int):=by rw [←hN];split<;>omega
   obtain ⟨m1,m2,k1,k2⟩:=Dy.B2r c.off (n:=N) (by omega) (by omega)
   cases hq:Dy.okR (Dy.EY ⟨s,d,e⟩ ⟨s',d',e'⟩ (N:Int)) (Dy.FO ⟨s,d,e⟩ ⟨s',d',e'⟩ (N:Int)) 64 with
   |true=>
    have hs:Dy.RR (fun n=>Dy.okR (Dy.EY ⟨s,d,e⟩ ⟨s',d',e'⟩ n) (Dy.FO ⟨s,d,e⟩ ⟨s',d',e'⟩ n) 64) (fu+1+4) n=n:=by
     show (if _ then n else _)=n
     rw [if_pos]
     show Dy.okR (Dy.EY ⟨s,d,e⟩ ⟨s',d',e'⟩ (min n 6000)) (Dy.FO ⟨s,d,e⟩ ⟨s',d',e'⟩ (min n 6000)) 64=true
     rw [hmin]
     exact hq
    rw [hs] at hK
    have hs2:=(Dy.PI.1 hq).1
    refine D4 ?_
    rw [DJ,hN]
    refine ⟨⟨c,by omega,by omega⟩,B4 fun b1 l2 n3 d1=>B4 fun b4 l5 n6 d4=> ?_⟩
    rintro _ rfl
    refine B1 rfl ?_
    rw [d1,d4]
    refine ⟨⟨m1,m2,by decide,by decide⟩,?_⟩
    rw [show decide (Dy.y5 (Dy.EY ⟨s,d,e⟩ ⟨s',d',e'⟩ (N:Int)) (Dy.FO ⟨s,d,e⟩ ⟨s',d',e'⟩ (N:Int))=0)=false from decide_eq_false hs2,cond_false]
    refine B4 fun b8 l9 n10 d8=> ?_
    rw [k1 hq] at d8
    rintro _ rfl
    have hq2:=hq
    unfold Dy.okR at hq2
    rw [show decide (Dy.y5 (Dy.EY ⟨s,d,e⟩ ⟨s',d',e'⟩ (N:Int)) (Dy.FO ⟨s,d,e⟩ ⟨s',d',e'⟩ (N:Int))=0)=false from decide_eq_false hs2] at hq2
    refine B5 hq2 ?_
    rw [d8]
    refine ⟨hb,B4 fun b12 l13 n14 d12=> ?_⟩
    rw [←d12] at hK
    exact hK
   |false=>
    have hlt:n<4700:=by
     refine G8 fun c2=> ?_
     have h2:=k2 (by omega)
     rw [h2] at hq
     cases hq
    have hs:Dy.RR (fun n=>Dy.okR (Dy.EY ⟨s,d,e⟩ ⟨s',d',e'⟩ n) (Dy.FO ⟨s,d,e⟩ ⟨s',d',e'⟩ n) 64) (fu+1+4) n=Dy.RR (fun n=>Dy.okR (Dy.EY ⟨s,d,e⟩ ⟨s',d',e'⟩ n) (Dy.FO ⟨s,d,e⟩ ⟨s',d',e'⟩ n) 64) (fu+4) (n+(n/2+200)):=by
     show (if _ then n else _)=_
     rw [if_neg]
     show¬Dy.okR (Dy.EY ⟨s,d,e⟩ ⟨s',d',e'⟩ (min n 6000)) (Dy.FO ⟨s,d,e⟩ ⟨s',d',e'⟩ (min n 6000)) 64=true
     rw [hmin,hq]
     decide
    rw [hs] at hK
    have ht:n.tdiv 2=n/2:=N8 (by omega)
    have hw:IntKind.i64.wrap (n+IntKind.i64.wrap (IntKind.i64.wrap (n.tdiv 2)+200))=n+(n/2+200):=by
     rw [ht,wrap_i64 (n:=n/2) (by omega) (by omega),wrap_i64 (n:=n/2+200) (by omega) (by omega),wrap_i64 (by omega) (by omega)]
    obtain ⟨j,hj⟩:=ih (n+(n/2+200)) (by omega) (Dy.A5w fu hbn n1 (by omega)) (by omega) (by omega) hK
    refine E9 j ?_
    rw [DJ,hN,hw]
    refine ⟨⟨c,by omega,by omega⟩,B4 fun b1 l2 n3 d1=>B4 fun b4 l5 n6 d4=> ?_⟩
    rintro _ rfl
    refine B1 rfl ?_
    rw [d1,d4]
    refine ⟨⟨m1,m2,by decide,by decide⟩,B4 fun b8 l9 n10 d8=> ?_⟩
    rintro _ rfl
    exact B1 hq hj
 exact key 6 n (by decide) n1 n1 n2 hK
theorem JV:L6 Tryz.prog (look OF) GW 1 30 IG (D8 Tryz.f85 0) C95:=by
 intro vals r h K hK
 unfold C95 at h
 split at h
 ·unfold C8x at h
  split at h
  ·split at h
   ·rename_i cF
    subst cF
    split at h
    ·rename_i cG
     subst cG
     cases h
     simp only [j0] at hK
     exact D3h hK.1.1 hK.1.2.1 hK.1.2.2 hK.2
    ·split at h
     ·rename_i cG
      subst cG
      cases h
      simp only [j0] at hK
      exact D3i hK.1.1 hK.1.2.1 hK.1.2.2 hK.2
     ·cases h
   ·cases h
  ·cases h
 ·cases h
theorem A1b (args:List AV) (s:Spec) (h:A7o args=some s) (hp:C6 s.pre True):Contract Tryz.prog Inv 85 args s.res:=by
 unfold A7o at h
 split at h
 ·split at h
  ·rename_i cF
   subst cF
   split at h
   ·rename_i cG
    subst cG
    cases h
    obtain ⟨hp, -⟩:=hp
    refine E8 false 30 GW A1i Tryz.func85 (by kernel_rfl) rfl (W4 (by kernel_rfl) (by kernel_rfl) JV) fun hok=> ?_
    rw [YN]
    exact ⟨⟨hp,by decide,by decide⟩,rfl⟩
   ·split at h
    ·rename_i cG
     subst cG
     cases h
     obtain ⟨hp, -⟩:=hp
     refine E8 false 30 GW A1i Tryz.func85 (by kernel_rfl) rfl (W4 (by kernel_rfl) (by kernel_rfl) JV) fun hok=> ?_
     rw [YO]
     exact ⟨⟨hp,by decide,by decide⟩,rfl⟩
    ·cases h
  ·cases h
 ·cases h
theorem DB:G6 Tryz.prog Inv (look US):=A3 A1i A1b
end Go.AI

namespace Go.Dy
set_option maxRecDepth 100000
theorem A1s {R:Dyd} (h:A5 R=true) (h0:R.mag≠[]):(I9 R).ok∧(I9 R).top=C7 R∧ -20000000≤(I9 R).top∧(I9 R).top≤20000000:=by
 obtain ⟨s,m,e⟩:=R
 obtain ⟨a,b,c,d⟩:=FG h h0
 exact ⟨a,rfl,c,d⟩
theorem C3i {f m:Int} (hf:isF f) {neg:Bool} {p:Prt} (hp:p.ok) (ht: -20000000≤p.top∧p.top≤20000000):H9 f ((R4 f m neg p).1:Nat)=0:=by
 refine C41 hf ?_
 rw [A28 hf]
 have hi:=IT hf
 have hp0:=A9 (M8 f)
 unfold R4
 split
 ·unfold NX
  simp only
  split<;>split<;>omega
 ·rename_i c
  obtain ⟨z1,z2,z3,z4,z5, -⟩:=PR hf (m:=m) (neg:=neg) hp rfl rfl ht c
  simp only
  have hz:(K6 f p-C9 f).toNat*2^A6 f+(H4 p m neg (K6 f p)).1<2^M8 f:=by
   by_cases h0:(H4 p m neg (K6 f p)).1=0
   ·rw [h0,z4 h0,Int.sub_self]
    simpa using hp0
   ·obtain ⟨y1,y2,y3⟩:=z5 h0
    have y4:=z3 y1
    rw [←y3]
    exact (OD hf (d:=form neg (H4 p m neg (K6 f p)).1 (K6 f p)) z2 y1 y4.1 y4.2).1
  split<;>omega
theorem C1a {f m:Int} (hf:isF f) {d:Dyd} (hd:A5 d=true) (hs:d.neg=false):H9 f ((S3 f m d).1:Nat)=0:=by
 unfold S3
 split
 ·refine C41 hf ?_
  rw [A28 hf]
  have hp0:=A9 (M8 f)
  simp only
  omega
 ·rename_i c
  obtain ⟨r1,r2, -⟩:=DC hd hs c (n:=64) (by decide) (by decide)
  rw [show ((64:Nat):Int)=64 from rfl] at r1 r2
  generalize C3 d 64=R at*
  obtain ⟨k1,k2,k3,k4⟩:=A1s r1 r2
  exact C3i hf (p:=⟨(I9 R.1).h,(I9 R.1).top,(I9 R.1).more||R.2⟩) k1 ⟨k3,k4⟩
theorem C61 {f m:Int} (h:L2 f m=0) (neg:Bool):L2 f (Z6 m neg)=0:=by
 obtain ⟨hf,m1,m2, -⟩:=W5 h
 unfold L2
 rw [OY hf,cond_true]
 unfold Z6
 split
 ·rw [if_pos (by omega)]
 ·rw [if_pos (by omega)]
def A3g (f:Int) (neg:Bool) (r:Nat×Int):Prop:=∃z:Nat,r.1=D5 f neg+z∧z<N6 f∧(z=0→r.2=24)
def D12 (f:Int) (neg:Bool) (r:Nat×Int):Prop:=∃z:Nat,r.1=D5 f neg+z∧z<N6 f
theorem A3g.size {f:Int} {neg:Bool} {r:Nat×Int} (h:A3g f neg r):D12 f neg r:=by
 obtain ⟨z,h1,h2, -⟩:=h
 exact ⟨z,h1,h2⟩
theorem D2b {f m:Int} (hf:isF f) {neg:Bool} {p:Prt} (hp:p.ok) (ht:p.top+1≤P8 f):A3g f neg (R4 f m neg p):=by
 obtain ⟨z,h1,h2,h3, -⟩:=B84 hf (m:=m) (neg:=neg) hp ht
 exact ⟨z,h1,h2,h3⟩
theorem D0j {d:Dyd} (hd:A5 d=true) (hs:d.neg=false) (h0:d.mag≠[]) {n:Nat} (hn:1≤n):2*C7 (C3 d n).1≤C7 d+1:=by
 obtain ⟨V,hV⟩:∃V:Nat, -(2*V:Int)≤d.exp-(2*n+4):=⟨(2*n+4-d.exp).toNat,by omega⟩
 obtain ⟨L,u, -, -,l1, -, -, -, -,q,x1,h1,h2,h3,h4,h5, -⟩:=Z7 hd hs h0 hn hV (v7 hs _)
 have hq:q≠0:=fun c=>by rw [c,K2] at h2;omega
 rw [h1,O6 hq,h2]
 have ht:C7 d=d.exp+bl (val d.mag):=by unfold C7;rw [if_neg h0]
 have a1:=P9 (val d.mag)
 have a2:=Nat.mul_lt_mul_of_pos_right a1 (A9 (d.exp - -(2*V:Int)).toNat)
 rw [←B8] at a2
 have b1:2^(n-1)≤q:=a9.1 (by omega)
 have b2:=C0 (2^(x1+V).toNat) b1
 rw [←h4,←B8] at b2
 have b3:=I7 b2 b2
 rw [Y8] at b3
 have b4:=(Nat.pow_lt_pow_iff_right (a:=2) (by decide)).1 (L8 b3 (L8 l1 a2))
 omega
theorem D0g {f m:Int} (hf:isF f) {d:Dyd} (hd:A5 d=true) (hs:d.neg=false) (h0:d.mag≠[]) (ht:C7 d≤P8 f+3) (neg:Bool):A3g f neg (S5 f m d neg):=by
 have hw:A3g f false (S3 f (Z6 m neg) d):=by
  unfold S3
  rw [if_neg h0]
  obtain ⟨r1,r2, -⟩:=DC hd hs h0 (n:=64) (by decide) (by decide)
  have r3:=D0j hd hs h0 (n:=64) (by decide)
  rw [show ((64:Nat):Int)=64 from rfl] at r1 r2 r3
  generalize C3 d 64=R at*
  obtain ⟨k1,k2, -⟩:=A1s r1 r2
  refine D2b hf (p:=⟨(I9 R.1).h,(I9 R.1).top,(I9 R.1).more||R.2⟩) k1 ?_
  show (I9 R.1).top+1≤P8 f
  rw [k2]
  rcases J0 hf with c|c<;>omega
 obtain ⟨z,e1,e2,e3⟩:=hw
 unfold S5
 cases neg
 ·exact ⟨z,e1,e2,e3⟩
 ·refine ⟨z,?_,e2,e3⟩
  have e1:(S3 f (Z6 m true) d).1=z:=by rw [e1];exact Nat.zero_add z
  rw [if_pos rfl,e1]
  have hi:=(IT hf).1
  have hz:R1 f z=z:=Nat.mod_eq_of_lt (by omega)
  unfold YE D3 o9
  rw [hz]
  have hp:0<2^A6 f:=A9 _
  rw [if_neg (by split<;>(try split)<;>(try split)<;>(try split)<;>omega),if_neg (by rw [decide_eq_true_eq];omega)]
  unfold D5
  rw [if_pos rfl,Nat.add_comm]
theorem A21 {f m:Int} (hf:isF f) {d:Dyd} (hd:A5 d=true) (hs:d.neg=false) (ht:C7 d≤P8 f+3):D12 f false (S5 f m d false):=by
 by_cases h0:d.mag=[]
 ·unfold S5 S3
  rw [if_pos h0]
  exact ⟨0,rfl,(IT hf).2⟩
 ·exact (D0g hf hd hs h0 ht false).size
theorem PQ {f:Int} (hf:isF f) {w:Nat} (hc:D3 f w<4):
  A5 (S6 f w)=true∧bl (val (S6 f w).mag)≤53∧ -1074≤(S6 f w).exp∧C7 (S6 f w)≤P8 f∧((S6 f w).mag=[] ↔ D3 f w=1)∧((S6 f w).mag≠[]→(S6 f w).neg=o9 f w)∧((S6 f w).mag=[]→(S6 f w).neg=false):=by
 have hp:0<2^A6 f:=A9 _
 have hF:=J0 hf
 have hsz:R1 f w<N6 f:=by
  unfold D3 at hc
  have:=(IT hf).2
  split at hc
  ·omega
  ·split at hc
   ·unfold N6
    have:1*2^A6 f≤P7 f*2^A6 f:=C0 _ (by omega)
    omega
   ·split at hc
    ·assumption
    ·split at hc<;>omega
 have hexp:Y3 f w<P7 f:=by
  unfold Y3
  rw [Nat.div_lt_iff_lt_mul hp]
  exact hsz
 have hfr:wFr f w<2^A6 f:=Nat.mod_lt _ hp
 have hdm:2^A6 f*Y3 f w+wFr f w=R1 f w:=Nat.div_add_mod _ _
 obtain ⟨n,hn⟩:∃n,wFr f w+(if Y3 f w=0 then 0 else 2^A6 f)=n:=⟨_,rfl⟩
 obtain ⟨x,hx⟩:∃x:Int,(if Y3 f w=0 then (0:Int) else (Y3 f w:Int)-1)+C9 f=x:=⟨_,rfl⟩
 have hv:S6 f w=form (o9 f w) n x:=by unfold S6;rw [hn,hx]
 have hx1:C9 f≤x∧x+(A6 f+1)≤P8 f:=by
  rw [←hx]
  split<;>(rcases hF with c|c<;>omega)
 have hn2:n<2^(A6 f+1):=by
  rw [I5,←hn]
  split<;>omega
 have hbn:bl n≤A6 f+1:=I8.2 hn2
 have hn0:n=0 ↔ R1 f w=0:=by
  rw [←hn,←hdm]
  by_cases c:Y3 f w=0
  ·rw [if_pos c,c,Nat.mul_zero]
   omega
  ·rw [if_neg c]
   have:=Nat.mul_le_mul_left (2^A6 f) (show 1≤Y3 f w by omega)
   omega
 have hcl:D3 f w=1 ↔ R1 f w=0:=by
  unfold D3
  constructor
  ·intro h
   refine G8 fun c=> ?_
   rw [if_neg c] at h
   (repeat' split at h)<;>omega
  ·intro h
   rw [if_pos h]
 have hfit:=(U4 (s:=o9 f w) (n:=n) (e:=x) (L:=53) (E:=3000) (by omega) (by omega) (by omega) (by decide) (by decide)).1
 rw [hv,hcl,←hn0]
 refine ⟨hfit.may,hfit.bits,?_,?_,?_,?_,?_⟩
 ·exact GR (by omega) (by omega)
 ·by_cases c:n=0
  ·subst c
   show (0:Int)≤P8 f
   omega
  ·rw [O6 c]
   omega
 ·constructor
  ·intro h
   refine G8 fun c=> ?_
   rw [H6 c] at h
   have h0:=T6.1 h
   have h1:=T0 c
   omega
  ·intro h
   subst h
   rfl
 ·intro h
  have c:n≠0:=fun c=>by subst c;exact h rfl
  rw [H6 c]
 ·intro h
  by_cases c:n=0
  ·subst c;rfl
  ·exfalso
   rw [H6 c] at h
   have h0:=T6.1 h
   have h1:=T0 c
   omega
theorem numOk.D6a {f m:Int} {X Y:Dyd} {h:Bool} (n:numOk f m X Y h) (hl:(C3 (sqD X Y) 4500).2=true):offZ (B7 X) (B7 Y):=by
 have a:∀{d:Dyd},A5 d=true→A5 (B7 d)=true:=fun {d} h=>by
  obtain ⟨s,m,e⟩:=d
  have h:=h
  show A5 ⟨false,m,e⟩=true
  rw [S2] at h ⊢
  exact ⟨h.1,h.2.elim (fun c=> .inl ⟨c.1,rfl,c.2.2⟩) .inr⟩
 exact ⟨a n.mx,rfl,a n.my,rfl,n.y0,n.bx,n.by_,n.ex,n.ey,n.tx,n.ty,hl⟩
end Go.Dy

namespace Go.Dy
set_option maxRecDepth 100000
theorem TJ (X:Dyd):E6 X X=E6 (B7 X) (B7 X):=by
 unfold E6 B7
 simp
theorem IL {X:Dyd} (hm:A5 X=true) (hb:bl (val X.mag)≤53) (he: -1074≤X.exp) (ht:C7 X≤1024):
  A5 (B7 X)=true∧Fit (B7 X) 1100 1100∧Fit X 1100 1100∧Fit (E6 X X) 2200 4400∧ -2148≤(E6 X X).exp:=by
 have ha:A5 (B7 X)=true:=by
  obtain ⟨s,m,e⟩:=X
  have h:=hm
  show A5 ⟨false,m,e⟩=true
  rw [S2] at h ⊢
  exact ⟨h.1,h.2.elim (fun c=> .inl ⟨c.1,rfl,c.2.2⟩) .inr⟩
 have fa:=FC ha hb he ht
 have fx:Fit X 1100 1100:=⟨hm,fa.bits,fa.lo,fa.hi⟩
 have f1:=(KW fa fa (by decide) (by decide)).1
 have x1: -(2148:Int)≤(E6 (B7 X) (B7 X)).exp:=GR (by show -(2148:Int)≤X.exp+X.exp;omega) (by omega)
 rw [TJ]
 exact ⟨ha,fa,fx,f1,x1⟩
theorem UO {f m:Int} {X Y:Dyd} {h:Bool} (n:numOk f m X Y h) {V:Nat} (hV:V=6000) {T:Nat} (tx:C7 X≤T) (ty:C7 Y≤T) (hT:T≤1024):
  ∃A B:Nat,at_ (B7 X) (-(V:Int))=A∧at_ (B7 Y) (-(V:Int))=B∧at_ (sqD X Y) (-(2*V:Int))=((A*A+B*B:Nat):Int)∧B≠0∧A<2^(V+T)∧B<2^(V+T)∧
   A5 (sqD X Y)=true∧(sqD X Y).neg=false∧(sqD X Y).mag≠[]∧bl (val (sqD X Y).mag)≤4500∧ -2148≤(sqD X Y).exp∧(sqD X Y).exp≤3000:=by
 obtain ⟨ax,fax,fx,fxx,xx⟩:=IL n.mx n.bx n.ex n.tx
 obtain ⟨ay,fay,fy,fyy,xy⟩:=IL n.my n.by_ n.ey n.ty
 rw [TJ] at fxx xx fyy xy
 have ex: -1074≤(B7 X).exp:=n.ex
 have ey: -1074≤(B7 Y).exp:=n.ey
 obtain ⟨A,hA,lA, -⟩:=HM ax rfl (V:=V) (T:=T) (by omega) tx
 obtain ⟨B,hB,lB,B0⟩:=HM ay rfl (V:=V) (T:=T) (by omega) ty
 obtain ⟨A',hA',lA', -⟩:=HM ax rfl (V:=1074) (T:=1024) (by omega) n.tx
 obtain ⟨B',hB',lB',B0'⟩:=HM ay rfl (V:=1074) (T:=1024) (by omega) n.ty
 have y0:(B7 Y).mag≠[]:=n.y0
 have aS:at_ (sqD X Y) (-(2*V:Int))=((A*A+B*B:Nat):Int):=by
  unfold sqD
  rw [SD (by omega) (by omega),show -(2*V:Int)= -(V:Int)+ -(V:Int) by omega,OP (by omega) (by omega),OP (by omega) (by omega),hA,hB]
  simp
 have eS:sqD X Y=form false (A'*A'+B'*B') (-(2148:Int)):=by
  unfold sqD
  rw [x5 (u:= -(2148:Int)) (by omega) (by omega),show -(2148:Int)= -((1074:Nat):Int)+ -((1074:Nat):Int) by omega,OP (by omega) (by omega),OP (by omega) (by omega),hA',hB',W2]
  congr 1
 have hS0:A'*A'+B'*B'≠0:=by
  have:=B0' y0
  have:=U9 (show 0<B' by omega) (show 0<B' by omega)
  omega
 have hbS:bl (A'*A'+B'*B')≤4200:=by
  obtain ⟨W,hW⟩:∃W:Nat,W=1074+1024:=⟨_,rfl⟩
  rw [←hW] at lA' lB'
  have key:bl (A'*A'+B'*B')≤2*W+1:=by
   refine I8.2 ?_
   have a:=K3 lA' lA'
   have b:=K3 lB' lB'
   rw [Y8] at a b
   have e:2^(2*W+1)=2*2^(2*W):=by rw [I5,B6]
   omega
  omega
 have ff:=(U4 (s:=false) (n:=A'*A'+B'*B') (e:= -(2148:Int)) (L:=4200) (E:=3000) hbS (by decide) (by omega) (by decide) (by decide)).1
 refine ⟨A,B,hA,hB,aS,B0 y0,lA,lB,?_⟩
 rw [eS]
 exact ⟨ff.may,OW _ _,IE hS0 _,Nat.le_trans ff.bits (by decide),GR (by omega) (by omega),ff.hi⟩
theorem WZ {f m:Int} {X Y:Dyd} {h:Bool} (n:numOk f m X Y h) {T:Nat} (tx:C7 X≤T) (ty:C7 Y≤T) (hT:T≤1024) (hl:(C3 (sqD X Y) (4500:Nat)).2=false):
  Fit (C3 (sqD X Y) (4500:Nat)).1 4500 7000∧(∀s:Bool,∀Z:Dyd,Z=(if s then G9 X else X)→A5 (shD (C2 (C3 (sqD X Y) (4500:Nat)).1 Z) (-1))=true∧(shD (C2 (C3 (sqD X Y) (4500:Nat)).1 Z) (-1)).neg=false∧
   (shD (C2 (C3 (sqD X Y) (4500:Nat)).1 Z) (-1)).mag≠[]∧C7 (shD (C2 (C3 (sqD X Y) (4500:Nat)).1 Z) (-1))≤T+2):=by
 obtain ⟨V,hV⟩:∃V:Nat,V=6000:=⟨_,rfl⟩
 obtain ⟨N,hN⟩:∃N:Nat,N=4500:=⟨_,rfl⟩
 rw [←hN] at hl ⊢
 obtain ⟨A,B,hA,hB,aS,B0,lA,lB,mS,nS,zS,bS,eS,eS2⟩:=UO n hV tx ty hT
 obtain ⟨ax,fax,fx, -, -⟩:=IL n.mx n.bx n.ex n.tx
 obtain ⟨L,u,⟨r1,r2⟩, -,l1, -, -,l4,l5,q,x1,q1,q2,q3,q4, -, -⟩:=Z7 mS nS zS (V:=V) (n:=N) (by omega) (by omega) aS
 have hLL:L*L=A*A+B*B:=by
  refine G8 fun c=> ?_
  have:=l5.2 c
  rw [hl] at this
  cases this
 have hLA:A<L:=by
  rcases L4 A L with c|c
  ·exact c
  ·have:=I7 c c
   have:=U9 (show 0<B by omega) (show 0<B by omega)
   omega
 have hLT:L<2^(V+T+1):=by
  rcases L4 L (2^(V+T+1)) with c|c
  ·exact c
  ·exfalso
   have c2:=I7 c c
   rw [I5] at c2
   have a:=K3 lA lA
   have b:=K3 lB lB
   generalize 2^(V+T)=p at*
   have e:p*2*(p*2)=4*(p*p):=by rw [Nat.mul_mul_mul_comm,B6]
   omega
 have hq0:q≠0:=fun c=>by rw [c,K2] at q2;omega
 have hx1:x1+N≤T+1:=by
  have b1:2^(N-1)≤q:=a9.1 (by omega)
  have b2:=C0 (2^(x1+V).toNat) b1
  rw [←q4,←B8] at b2
  have b4:=(Nat.pow_lt_pow_iff_right (a:=2) (by decide)).1 (L8 b2 hLT)
  omega
 have fr:Fit (C3 (sqD X Y) N).1 N 7000:=by
  rw [q1]
  exact (U4 (by omega) (by omega) (by omega) (by omega) (by decide)).1
 refine ⟨fr,fun s Z hZ=> ?_⟩
 have ex: -1074≤X.exp:=n.ex
 have exZ:Z.exp=X.exp:=by rw [hZ];split<;>rfl
 have hXa:at_ X (-(V:Int))=A∨at_ X (-(V:Int))= -(A:Int):=by
  rw [←hA]
  unfold at_ Dyd.int B7
  simp only
  cases X.neg
  ·exact .inl rfl
  ·right
   simp only [if_true,Bool.false_eq_true,if_false]
   rw [Int.neg_mul]
 have hZa:at_ Z (-(V:Int))=A∨at_ Z (-(V:Int))= -(A:Int):=by
  rw [hZ]
  cases s
  ·exact hXa
  ·rw [if_pos rfl,FX]
   omega
 obtain ⟨w,hw⟩:∃w:Nat,(L:Int)+at_ Z (-(V:Int))=w:=⟨((L:Int)+at_ Z (-(V:Int))).toNat,by omega⟩
 have w0:w≠0:=by omega
 have hw2:w<2^(V+T+2):=by
  rw [I5] at hLT ⊢
  rw [I5]
  omega
 have hadd:C2 (C3 (sqD X Y) N).1 Z=form false w (-(V:Int)):=by
  rw [x5 (u:= -(V:Int)) (by omega) (by omega),r1,hw,W2]
  rfl
 have hbw:=I8.2 hw2
 have hsh:shD (C2 (C3 (sqD X Y) N).1 Z) (-1)=form false w (-(V:Int)-1):=by
  rw [hadd]
  unfold shD
  rw [if_neg (IE w0 _),H6 w0,H6 w0]
  simp only [Dyd.mk.injEq,true_and]
  omega
 rw [hsh]
 have ff:=(U4 (s:=false) (n:=w) (e:= -(V:Int)-1) (L:=8000) (E:=8000) (by omega) (by omega) (by omega) (by decide) (by decide)).1
 exact ⟨ff.may,OW _ _,IE w0 _,by rw [O6 w0];omega⟩
end Go.Dy
