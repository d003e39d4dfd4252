/- My texts AVsettle, AIsettle, AIhalf0, AIsq0, in one. -/
import Derived.Test.YtogikmlfkhofoaaGreatDoorK16
namespace Go.AI
open Dy IntKind
open Go Go.RowKit Go.Proofs
set_option linter.unusedVariables false
set_option maxRecDepth 100000
set_option maxHeartbeats 0
def lsCaps (G F:Nat) (n:Int):List AV→Option LR
 |[.cref [1,2] [.bool t,.dig [1,2] l,.num .i64 i,.bool t',.dig [1,2] l',.num .i64 i'],.cref [1,2] [.num .u8 f,.num .u8 m,.num .u64 a,.num .u64 b,.num .u8 k,.num .u8 k',.bool g,.bool h,.bool s,.dig [1,2] d,.num .i64 e,.bool s',.dig [1,2] d',.num .i64 e'],.cref [1,2] [.bool u,.dig [1,2] v,.num .i64 w,.bool u',.dig [1,2] v',.num .i64 w'],.cref [1,2] [.bool o,.dig [1,2] q,.num .i64 r,.bool o',.dig [1,2] q',.num .i64 r']]=>
 if F=80 then
 if G=86 then some (.need (Dy.capOk ⟨s,d,e⟩ ⟨s',d',e'⟩ ⟨t,l,i⟩ ⟨t',l',i'⟩ ⟨u,v,w⟩ ⟨u',v',w'⟩ ⟨o,q,r⟩ ⟨o',q',r'⟩ h∧104≤n∧n≤100000) (.done .ret [.fn G [.cref [1,2] [.fn F [.cref [1,2] [.bool t,.dig [1,2] l,.num .i64 i,.bool t',.dig [1,2] l',.num .i64 i'],.cref [1,2] [.num .u8 f,.num .u8 m,.num .u64 a,.num .u64 b,.num .u8 k,.num .u8 k',.bool g,.bool h,.bool s,.dig [1,2] d,.num .i64 e,.bool s',.dig [1,2] d',.num .i64 e'],.cref [1,2] [.bool u,.dig [1,2] v,.num .i64 w,.bool u',.dig [1,2] v',.num .i64 w'],.cref [1,2] [.bool o,.dig [1,2] q,.num .i64 r,.bool o',.dig [1,2] q',.num .i64 r']]]],
 .boxv [.bool (Dy.beyD (Dy.reD ⟨s,d,e⟩ ⟨s',d',e'⟩)).neg,.dig [2] (Dy.beyD (Dy.reD ⟨s,d,e⟩ ⟨s',d',e'⟩)).mag,.num .i64 (Dy.beyD (Dy.reD ⟨s,d,e⟩ ⟨s',d',e'⟩)).exp],.num .i64 (Dy.setN (fun n=>Dy.okR (Dy.reLo ⟨s,d,e⟩ ⟨s',d',e'⟩ n) (Dy.reHi ⟨s,d,e⟩ ⟨s',d',e'⟩ n) 64) 10 n)]))
 else if G=87 then some (.need (Dy.capOk ⟨s,d,e⟩ ⟨s',d',e'⟩ ⟨t,l,i⟩ ⟨t',l',i'⟩ ⟨u,v,w⟩ ⟨u',v',w'⟩ ⟨o,q,r⟩ ⟨o',q',r'⟩ h∧104≤n∧n≤100000) (.done .ret [.fn G [.cref [1,2] [.fn F [.cref [1,2] [.bool t,.dig [1,2] l,.num .i64 i,.bool t',.dig [1,2] l',.num .i64 i'],.cref [1,2] [.num .u8 f,.num .u8 m,.num .u64 a,.num .u64 b,.num .u8 k,.num .u8 k',.bool g,.bool h,.bool s,.dig [1,2] d,.num .i64 e,.bool s',.dig [1,2] d',.num .i64 e'],.cref [1,2] [.bool u,.dig [1,2] v,.num .i64 w,.bool u',.dig [1,2] v',.num .i64 w'],.cref [1,2] [.bool o,.dig [1,2] q,.num .i64 r,.bool o',.dig [1,2] q',.num .i64 r']]]],
 .boxv [.bool (Dy.beyD (Dy.imD ⟨s,d,e⟩ ⟨s',d',e'⟩)).neg,.dig [2] (Dy.beyD (Dy.imD ⟨s,d,e⟩ ⟨s',d',e'⟩)).mag,.num .i64 (Dy.beyD (Dy.imD ⟨s,d,e⟩ ⟨s',d',e'⟩)).exp],.num .i64 (Dy.setN (fun n=>Dy.okR (Dy.imLo ⟨s,d,e⟩ ⟨s',d',e'⟩ n) (Dy.imHi ⟨s,d,e⟩ ⟨s',d',e'⟩ n) 64) 10 n)]))
 else none
 else none
 |_=>none
def lsSet:List AV→Option LR
 |[.fn G [.cref [1,2] [.fn F cs]],.boxv [.bool x,.dig [2] y,.num .i64 z],.num .i64 n]=>lsCaps G F n cs
 |_=>none
def keepSet:List (Nat×Keep):=[(0,.same),(2,.same),(3,.same)]
def lamSet:=lam [(3,.spec keepSet lsSet)]
theorem vc_span_Settle2 (t:Bool) (l:List Nat) (i:Int) (t':Bool) (l':List Nat) (i':Int) (f:Int) (m:Int) (a:Int) (b:Int) (k:Int) (k':Int) (g:Bool) (h:Bool) (s:Bool) (d:List Nat) (e:Int) (s':Bool) (d':List Nat) (e':Int) (u:Bool) (v:List Nat) (w:Int) (u':Bool) (v':List Nat) (w':Int) (o:Bool) (q:List Nat) (r:Int) (o':Bool) (q':List Nat) (r':Int) (Q:AV→Prop):(evF Tryz.prog (look tabC2) lamSet false Tryz.f85 [AV.fn (86:Nat) [.cref [1] [AV.fn (80:Nat) [.cref [1] [.bool t,.dig [1] l,.num .i64 i,.bool t',.dig [1] l',.num .i64 i'],.cref [1] [.num .u8 f,.num .u8 m,.num .u64 a,.num .u64 b,.num .u8 k,.num .u8 k',.bool g,.bool h,.bool s,.dig [1] d,.num .i64 e,.bool s',.dig [1] d',.num .i64 e'],.cref [1] [.bool u,.dig [1] v,.num .i64 w,.bool u',.dig [1] v',.num .i64 w'],.cref [1] [.bool o,.dig [1] q,.num .i64 r,.bool o',.dig [1] q',.num .i64 r']]]]] Q)=((capOk (Dyd.mk s d e) (Dyd.mk s' d' e') (Dyd.mk t l i) (Dyd.mk t' l' i') (Dyd.mk u v w) (Dyd.mk u' v' w') (Dyd.mk o q r) (Dyd.mk o' q' r') h∧(104:Int)≤(104:Int)∧(104:Int)≤(100000:Int))∧Q (.agg [.bool (beyD (reD (Dyd.mk s d e) (Dyd.mk s' d' e'))).neg,.dig [0] (beyD (reD (Dyd.mk s d e) (Dyd.mk s' d' e'))).mag,.num .i64 (beyD (reD (Dyd.mk s d e) (Dyd.mk s' d' e'))).exp])):=by kernel_rfl
theorem vc_span_Settle2_1 (t:Bool) (l:List Nat) (i:Int) (t':Bool) (l':List Nat) (i':Int) (f:Int) (m:Int) (a:Int) (b:Int) (k:Int) (k':Int) (g:Bool) (h:Bool) (s:Bool) (d:List Nat) (e:Int) (s':Bool) (d':List Nat) (e':Int) (u:Bool) (v:List Nat) (w:Int) (u':Bool) (v':List Nat) (w':Int) (o:Bool) (q:List Nat) (r:Int) (o':Bool) (q':List Nat) (r':Int) (x:Bool) (y:List Nat) (z:Int) (n:Int) (K:Exit→List AV→Prop):(evIter Tryz.prog (look tabC2) lamSet (1:Nat) (30:Nat) keepSet (bodyN Tryz.f85 (0:Nat)) [AV.fn (86:Nat) [.cref [1,2] [AV.fn (80:Nat) [.cref [1,2] [.bool t,.dig [1,2] l,.num .i64 i,.bool t',.dig [1,2] l',.num .i64 i'],.cref [1,2] [.num .u8 f,.num .u8 m,.num .u64 a,.num .u64 b,.num .u8 k,.num .u8 k',.bool g,.bool h,.bool s,.dig [1,2] d,.num .i64 e,.bool s',.dig [1,2] d',.num .i64 e'],.cref [1,2] [.bool u,.dig [1,2] v,.num .i64 w,.bool u',.dig [1,2] v',.num .i64 w'],.cref [1,2] [.bool o,.dig [1,2] q,.num .i64 r,.bool o',.dig [1,2] q',.num .i64 r']]]],.boxv [.bool x,.dig [2] y,.num .i64 z],.num .i64 n] K)=((capOk (Dyd.mk s d e) (Dyd.mk s' d' e') (Dyd.mk t l i) (Dyd.mk t' l' i') (Dyd.mk u v w) (Dyd.mk u' v' w') (Dyd.mk o q r) (Dyd.mk o' q' r') h∧(20≤if 6000<n then (6000:Int) else n)∧(if 6000<n then (6000:Int) else n)≤(8192:Int))∧dyF (reLo (Dyd.mk s d e) (Dyd.mk s' d' e') (if 6000<n then (6000:Int) else n)) fun b1 l2 n3=>dyF (reHi (Dyd.mk s d e) (Dyd.mk s' d' e') (if 6000<n then (6000:Int) else n)) fun b4 l5 n6=>∀(b7:Bool),b7=true→bif !b7 then K Exit.normal [AV.fn (86:Nat) [.cref [1,2] [AV.fn (80:Nat) [.cref [1,2] [.bool t,.dig [1,2] l,.num .i64 i,.bool t',.dig [1,2] l',.num .i64 i'],.cref [1,2] [.num .u8 f,.num .u8 m,.num .u64 a,.num .u64 b,.num .u8 k,.num .u8 k',.bool g,.bool h,.bool s,.dig [1,2] d,.num .i64 e,.bool s',.dig [1,2] d',.num .i64 e'],.cref [1,2] [.bool u,.dig [1,2] v,.num .i64 w,.bool u',.dig [1,2] v',.num .i64 w'],.cref [1,2] [.bool o,.dig [1,2] q,.num .i64 r,.bool o',.dig [1,2] q',.num .i64 r']]]],.boxv [.bool x,.dig [2] y,.num .i64 z],.num .i64 (i64.wrap (n+i64.wrap (i64.wrap (n.tdiv (2:Int))+(200:Int))))] else (mid (Dyd.mk b1 l2 n3)∧mid (Dyd.mk b4 l5 n6)∧(1:Int)≤(64:Int)∧(64:Int)≤(8192:Int))∧dyF (bif decide (signS (Dyd.mk b1 l2 n3) (Dyd.mk b4 l5 n6)=(0:Int)) then zeroD else (cutR (Dyd.mk b1 l2 n3) (64:Int)).fst) fun b8 l9 n10=>∀(b11:Bool),b11=(!decide (signS (Dyd.mk b1 l2 n3) (Dyd.mk b4 l5 n6)=(0:Int))&&decide (cmpD (cutR (Dyd.mk b1 l2 n3) (64:Int)).fst (cutR (Dyd.mk b4 l5 n6) (64:Int)).fst=(0:Int)))→bif b11 then (mid (Dyd.mk b8 l9 n10)∧mayD (beyD (Dyd.mk b8 l9 n10))=true)∧dyF (beyD (Dyd.mk b8 l9 n10)) fun b12 l13 n14=>K Exit.ret [AV.fn (86:Nat) [.cref [1,2] [AV.fn (80:Nat) [.cref [1,2] [.bool t,.dig [1,2] l,.num .i64 i,.bool t',.dig [1,2] l',.num .i64 i'],.cref [1,2] [.num .u8 f,.num .u8 m,.num .u64 a,.num .u64 b,.num .u8 k,.num .u8 k',.bool g,.bool h,.bool s,.dig [1,2] d,.num .i64 e,.bool s',.dig [1,2] d',.num .i64 e'],.cref [1,2] [.bool u,.dig [1,2] v,.num .i64 w,.bool u',.dig [1,2] v',.num .i64 w'],.cref [1,2] [.bool o,.dig [1,2] q,.num .i64 r,.bool o',.dig [1,2] q',.num .i64 r']]]],.boxv [.bool b12,.dig [2] l13,.num .i64 n14],.num .i64 n] else K Exit.normal [AV.fn (86:Nat) [.cref [1,2] [AV.fn (80:Nat) [.cref [1,2] [.bool t,.dig [1,2] l,.num .i64 i,.bool t',.dig [1,2] l',.num .i64 i'],.cref [1,2] [.num .u8 f,.num .u8 m,.num .u64 a,.num .u64 b,.num .u8 k,.num .u8 k',.bool g,.bool h,.bool s,.dig [1,2] d,.num .i64 e,.bool s',.dig [1,2] d',.num .i64 e'],.cref [1,2] [.bool u,.dig [1,2] v,.num .i64 w,.bool u',.dig [1,2] v',.num .i64 w'],.cref [1,2] [.bool o,.dig [1,2] q,.num .i64 r,.bool o',.dig [1,2] q',.num .i64 r']]]],.boxv [.bool x,.dig [2] y,.num .i64 z],.num .i64 (i64.wrap (n+i64.wrap (i64.wrap (n.tdiv (2:Int))+(200:Int))))]):=by kernel_rfl
theorem vc_span_Settle3 (t:Bool) (l:List Nat) (i:Int) (t':Bool) (l':List Nat) (i':Int) (f:Int) (m:Int) (a:Int) (b:Int) (k:Int) (k':Int) (g:Bool) (h:Bool) (s:Bool) (d:List Nat) (e:Int) (s':Bool) (d':List Nat) (e':Int) (u:Bool) (v:List Nat) (w:Int) (u':Bool) (v':List Nat) (w':Int) (o:Bool) (q:List Nat) (r:Int) (o':Bool) (q':List Nat) (r':Int) (Q:AV→Prop):(evF Tryz.prog (look tabC2) lamSet false Tryz.f85 [AV.fn (87:Nat) [.cref [1] [AV.fn (80:Nat) [.cref [1] [.bool t,.dig [1] l,.num .i64 i,.bool t',.dig [1] l',.num .i64 i'],.cref [1] [.num .u8 f,.num .u8 m,.num .u64 a,.num .u64 b,.num .u8 k,.num .u8 k',.bool g,.bool h,.bool s,.dig [1] d,.num .i64 e,.bool s',.dig [1] d',.num .i64 e'],.cref [1] [.bool u,.dig [1] v,.num .i64 w,.bool u',.dig [1] v',.num .i64 w'],.cref [1] [.bool o,.dig [1] q,.num .i64 r,.bool o',.dig [1] q',.num .i64 r']]]]] Q)=((capOk (Dyd.mk s d e) (Dyd.mk s' d' e') (Dyd.mk t l i) (Dyd.mk t' l' i') (Dyd.mk u v w) (Dyd.mk u' v' w') (Dyd.mk o q r) (Dyd.mk o' q' r') h∧(104:Int)≤(104:Int)∧(104:Int)≤(100000:Int))∧Q (.agg [.bool (beyD (imD (Dyd.mk s d e) (Dyd.mk s' d' e'))).neg,.dig [0] (beyD (imD (Dyd.mk s d e) (Dyd.mk s' d' e'))).mag,.num .i64 (beyD (imD (Dyd.mk s d e) (Dyd.mk s' d' e'))).exp])):=by kernel_rfl
theorem vc_span_Settle3_1 (t:Bool) (l:List Nat) (i:Int) (t':Bool) (l':List Nat) (i':Int) (f:Int) (m:Int) (a:Int) (b:Int) (k:Int) (k':Int) (g:Bool) (h:Bool) (s:Bool) (d:List Nat) (e:Int) (s':Bool) (d':List Nat) (e':Int) (u:Bool) (v:List Nat) (w:Int) (u':Bool) (v':List Nat) (w':Int) (o:Bool) (q:List Nat) (r:Int) (o':Bool) (q':List Nat) (r':Int) (x:Bool) (y:List Nat) (z:Int) (n:Int) (K:Exit→List AV→Prop):(evIter Tryz.prog (look tabC2) lamSet (1:Nat) (30:Nat) keepSet (bodyN Tryz.f85 (0:Nat)) [AV.fn (87:Nat) [.cref [1,2] [AV.fn (80:Nat) [.cref [1,2] [.bool t,.dig [1,2] l,.num .i64 i,.bool t',.dig [1,2] l',.num .i64 i'],.cref [1,2] [.num .u8 f,.num .u8 m,.num .u64 a,.num .u64 b,.num .u8 k,.num .u8 k',.bool g,.bool h,.bool s,.dig [1,2] d,.num .i64 e,.bool s',.dig [1,2] d',.num .i64 e'],.cref [1,2] [.bool u,.dig [1,2] v,.num .i64 w,.bool u',.dig [1,2] v',.num .i64 w'],.cref [1,2] [.bool o,.dig [1,2] q,.num .i64 r,.bool o',.dig [1,2] q',.num .i64 r']]]],.boxv [.bool x,.dig [2] y,.num .i64 z],.num .i64 n] K)=((capOk (Dyd.mk s d e) (Dyd.mk s' d' e') (Dyd.mk t l i) (Dyd.mk t' l' i') (Dyd.mk u v w) (Dyd.mk u' v' w') (Dyd.mk o q r) (Dyd.mk o' q' r') h∧(20≤if 6000<n then (6000:Int) else n)∧(if 6000<n then (6000:Int) else n)≤(8192:Int))∧dyF (imLo (Dyd.mk s d e) (Dyd.mk s' d' e') (if 6000<n then (6000:Int) else n)) fun b1 l2 n3=>dyF (imHi (Dyd.mk s d e) (Dyd.mk s' d' e') (if 6000<n then (6000:Int) else n)) fun b4 l5 n6=>∀(b7:Bool),b7=true→bif !b7 then K Exit.normal [AV.fn (87:Nat) [.cref [1,2] [AV.fn (80:Nat) [.cref [1,2] [.bool t,.dig [1,2] l,.num .i64 i,.bool t',.dig [1,2] l',.num .i64 i'],.cref [1,2] [.num .u8 f,.num .u8 m,.num .u64 a,.num .u64 b,.num .u8 k,.num .u8 k',.bool g,.bool h,.bool s,.dig [1,2] d,.num .i64 e,.bool s',.dig [1,2] d',.num .i64 e'],.cref [1,2] [.bool u,.dig [1,2] v,.num .i64 w,.bool u',.dig [1,2] v',.num .i64 w'],.cref [1,2] [.bool o,.dig [1,2] q,.num .i64 r,.bool o',.dig [1,2] q',.num .i64 r']]]],.boxv [.bool x,.dig [2] y,.num .i64 z],.num .i64 (i64.wrap (n+i64.wrap (i64.wrap (n.tdiv (2:Int))+(200:Int))))] else (mid (Dyd.mk b1 l2 n3)∧mid (Dyd.mk b4 l5 n6)∧(1:Int)≤(64:Int)∧(64:Int)≤(8192:Int))∧dyF (bif decide (signS (Dyd.mk b1 l2 n3) (Dyd.mk b4 l5 n6)=(0:Int)) then zeroD else (cutR (Dyd.mk b1 l2 n3) (64:Int)).fst) fun b8 l9 n10=>∀(b11:Bool),b11=(!decide (signS (Dyd.mk b1 l2 n3) (Dyd.mk b4 l5 n6)=(0:Int))&&decide (cmpD (cutR (Dyd.mk b1 l2 n3) (64:Int)).fst (cutR (Dyd.mk b4 l5 n6) (64:Int)).fst=(0:Int)))→bif b11 then (mid (Dyd.mk b8 l9 n10)∧mayD (beyD (Dyd.mk b8 l9 n10))=true)∧dyF (beyD (Dyd.mk b8 l9 n10)) fun b12 l13 n14=>K Exit.ret [AV.fn (87:Nat) [.cref [1,2] [AV.fn (80:Nat) [.cref [1,2] [.bool t,.dig [1,2] l,.num .i64 i,.bool t',.dig [1,2] l',.num .i64 i'],.cref [1,2] [.num .u8 f,.num .u8 m,.num .u64 a,.num .u64 b,.num .u8 k,.num .u8 k',.bool g,.bool h,.bool s,.dig [1,2] d,.num .i64 e,.bool s',.dig [1,2] d',.num .i64 e'],.cref [1,2] [.bool u,.dig [1,2] v,.num .i64 w,.bool u',.dig [1,2] v',.num .i64 w'],.cref [1,2] [.bool o,.dig [1,2] q,.num .i64 r,.bool o',.dig [1,2] q',.num .i64 r']]]],.boxv [.bool b12,.dig [2] l13,.num .i64 n14],.num .i64 n] else K Exit.normal [AV.fn (87:Nat) [.cref [1,2] [AV.fn (80:Nat) [.cref [1,2] [.bool t,.dig [1,2] l,.num .i64 i,.bool t',.dig [1,2] l',.num .i64 i'],.cref [1,2] [.num .u8 f,.num .u8 m,.num .u64 a,.num .u64 b,.num .u8 k,.num .u8 k',.bool g,.bool h,.bool s,.dig [1,2] d,.num .i64 e,.bool s',.dig [1,2] d',.num .i64 e'],.cref [1,2] [.bool u,.dig [1,2] v,.num .i64 w,.bool u',.dig [1,2] v',.num .i64 w'],.cref [1,2] [.bool o,.dig [1,2] q,.num .i64 r,.bool o',.dig [1,2] q',.num .i64 r']]]],.boxv [.bool x,.dig [2] y,.num .i64 z],.num .i64 (i64.wrap (n+i64.wrap (i64.wrap (n.tdiv (2:Int))+(200:Int))))]):=by kernel_rfl
end Go.AI

namespace Go.Dy
def bndS:Nat→Int
 |0=>4700
 |1=>3000
 |2=>1867
 |3=>1112
 |4=>608
 |5=>272
 |_=>104
theorem bndS_next (f:Nat) {n:Int} (h:bndS (f+1)≤n) (h0:104≤n):f≤5→bndS f≤n+(n/2+200):=by
 intro hf
 match f,hf with
 |0,_=>have h:(3000:Int)≤n:=h;show (4700:Int)≤_;omega
 |1,_=>have h:(1867:Int)≤n:=h;show (3000:Int)≤_;omega
 |2,_=>have h:(1112:Int)≤n:=h;show (1867:Int)≤_;omega
 |3,_=>have h:(608:Int)≤n:=h;show (1112:Int)≤_;omega
 |4,_=>have h:(272:Int)≤n:=h;show (608:Int)≤_;omega
 |5,_=>have h:(104:Int)≤n:=h;show (272:Int)≤_;omega
end Go.Dy
namespace Go.AI
open Go Go.RowKit Go.Proofs
set_option linter.unusedVariables false
set_option maxRecDepth 100000
set_option maxHeartbeats 1000000
theorem settle2 {t:Bool} {l:List Nat} {i:Int} {t':Bool} {l':List Nat} {i':Int} {f m a b k k':Int} {g h:Bool} {s:Bool} {d:List Nat} {e:Int} {s':Bool} {d':List Nat} {e':Int} {u:Bool} {v:List Nat} {w:Int} {u':Bool} {v':List Nat} {w':Int} {o:Bool} {q:List Nat} {r:Int} {o':Bool} {q':List Nat} {r':Int} {x:Bool} {y:List Nat} {z n:Int} {K:Exit→List AV→Prop} (c:Dy.capOk ⟨s,d,e⟩ ⟨s',d',e'⟩ ⟨t,l,i⟩ ⟨t',l',i'⟩ ⟨u,v,w⟩ ⟨u',v',w'⟩ ⟨o,q,r⟩ ⟨o',q',r'⟩ h) (n1:104≤n) (n2:n≤100000)
  (hK:K .ret [.fn 86 [.cref [1,2] [.fn 80 [.cref [1,2] [.bool t,.dig [1,2] l,.num .i64 i,.bool t',.dig [1,2] l',.num .i64 i'],.cref [1,2] [.num .u8 f,.num .u8 m,.num .u64 a,.num .u64 b,.num .u8 k,.num .u8 k',.bool g,.bool h,.bool s,.dig [1,2] d,.num .i64 e,.bool s',.dig [1,2] d',.num .i64 e'],.cref [1,2] [.bool u,.dig [1,2] v,.num .i64 w,.bool u',.dig [1,2] v',.num .i64 w'],.cref [1,2] [.bool o,.dig [1,2] q,.num .i64 r,.bool o',.dig [1,2] q',.num .i64 r']]]],.boxv [.bool (Dy.beyD (Dy.reD ⟨s,d,e⟩ ⟨s',d',e'⟩)).neg,.dig [2] (Dy.beyD (Dy.reD ⟨s,d,e⟩ ⟨s',d',e'⟩)).mag,.num .i64 (Dy.beyD (Dy.reD ⟨s,d,e⟩ ⟨s',d',e'⟩)).exp],.num .i64 (Dy.setN (fun n=>Dy.okR (Dy.reLo ⟨s,d,e⟩ ⟨s',d',e'⟩ n) (Dy.reHi ⟨s,d,e⟩ ⟨s',d',e'⟩ n) 64) 10 n)]):
  ∃j,iterN Tryz.prog (look tabC2) lamSet 1 30 keepSet (bodyN Tryz.f85 0) j [.fn 86 [.cref [1,2] [.fn 80 [.cref [1,2] [.bool t,.dig [1,2] l,.num .i64 i,.bool t',.dig [1,2] l',.num .i64 i'],.cref [1,2] [.num .u8 f,.num .u8 m,.num .u64 a,.num .u64 b,.num .u8 k,.num .u8 k',.bool g,.bool h,.bool s,.dig [1,2] d,.num .i64 e,.bool s',.dig [1,2] d',.num .i64 e'],.cref [1,2] [.bool u,.dig [1,2] v,.num .i64 w,.bool u',.dig [1,2] v',.num .i64 w'],.cref [1,2] [.bool o,.dig [1,2] q,.num .i64 r,.bool o',.dig [1,2] q',.num .i64 r']]]],.boxv [.bool x,.dig [2] y,.num .i64 z],.num .i64 n] K:=by
 have hb:=(Dy.bey_ok c.off).1
 have key:∀(fu:Nat) (n:Int),fu≤6→Dy.bndS fu≤n→104≤n→n≤100000→K .ret [.fn 86 [.cref [1,2] [.fn 80 [.cref [1,2] [.bool t,.dig [1,2] l,.num .i64 i,.bool t',.dig [1,2] l',.num .i64 i'],.cref [1,2] [.num .u8 f,.num .u8 m,.num .u64 a,.num .u64 b,.num .u8 k,.num .u8 k',.bool g,.bool h,.bool s,.dig [1,2] d,.num .i64 e,.bool s',.dig [1,2] d',.num .i64 e'],.cref [1,2] [.bool u,.dig [1,2] v,.num .i64 w,.bool u',.dig [1,2] v',.num .i64 w'],.cref [1,2] [.bool o,.dig [1,2] q,.num .i64 r,.bool o',.dig [1,2] q',.num .i64 r']]]],.boxv [.bool (Dy.beyD (Dy.reD ⟨s,d,e⟩ ⟨s',d',e'⟩)).neg,.dig [2] (Dy.beyD (Dy.reD ⟨s,d,e⟩ ⟨s',d',e'⟩)).mag,.num .i64 (Dy.beyD (Dy.reD ⟨s,d,e⟩ ⟨s',d',e'⟩)).exp],.num .i64 (Dy.setN (fun n=>Dy.okR (Dy.reLo ⟨s,d,e⟩ ⟨s',d',e'⟩ n) (Dy.reHi ⟨s,d,e⟩ ⟨s',d',e'⟩ n) 64) (fu+4) n)]→
   ∃j,iterN Tryz.prog (look tabC2) lamSet 1 30 keepSet (bodyN Tryz.f85 0) j [.fn 86 [.cref [1,2] [.fn 80 [.cref [1,2] [.bool t,.dig [1,2] l,.num .i64 i,.bool t',.dig [1,2] l',.num .i64 i'],.cref [1,2] [.num .u8 f,.num .u8 m,.num .u64 a,.num .u64 b,.num .u8 k,.num .u8 k',.bool g,.bool h,.bool s,.dig [1,2] d,.num .i64 e,.bool s',.dig [1,2] d',.num .i64 e'],.cref [1,2] [.bool u,.dig [1,2] v,.num .i64 w,.bool u',.dig [1,2] v',.num .i64 w'],.cref [1,2] [.bool o,.dig [1,2] q,.num .i64 r,.bool o',.dig [1,2] q',.num .i64 r']]]],.boxv [.bool x,.dig [2] y,.num .i64 z],.num .i64 n] K:=by
  intro fu
  induction fu with
  |zero=>
   intro n hf hbn n1 n2 hK
   obtain ⟨N,hN⟩:∃N:Nat,(if (6000:Int)<n then (6000:Int) else n)=N:=⟨(if (6000:Int)<n then (6000:Int) else n).toNat,by split<;>omega⟩
   have hN2:(20:Int)≤N∧(N:Int)≤6000:=by
    rw [←hN]
    split<;>omega
   have hNn:(n≤6000∧(N:Int)=n)∨(6000<n∧(N:Int)=6000):=by
    rcases Int.lt_or_le 6000 n with c1|c1
    ·exact .inr ⟨c1,by rw [←hN,if_pos c1]⟩
    ·exact .inl ⟨c1,by rw [←hN,if_neg (by omega)]⟩
   have hmin:min n 6000=(N:Int):=by rw [←hN];split<;>omega
   obtain ⟨m1,m2,k1,k2⟩:=Dy.re_known c.off (n:=N) (by omega) (by omega)
   cases hq:Dy.okR (Dy.reLo ⟨s,d,e⟩ ⟨s',d',e'⟩ (N:Int)) (Dy.reHi ⟨s,d,e⟩ ⟨s',d',e'⟩ (N:Int)) 64 with
   |true=>
    have hs:Dy.setN (fun n=>Dy.okR (Dy.reLo ⟨s,d,e⟩ ⟨s',d',e'⟩ n) (Dy.reHi ⟨s,d,e⟩ ⟨s',d',e'⟩ n) 64) (0+4) n=n:=by
     show (if _ then n else _)=n
     rw [if_pos]
     show Dy.okR (Dy.reLo ⟨s,d,e⟩ ⟨s',d',e'⟩ (min n 6000)) (Dy.reHi ⟨s,d,e⟩ ⟨s',d',e'⟩ (min n 6000)) 64=true
     rw [hmin]
     exact hq
    rw [hs] at hK
    have hs2:=(Dy.okR_iff.1 hq).1
    refine iterN_last ?_
    rw [vc_span_Settle2_1,hN]
    refine ⟨⟨c,by omega,by omega⟩,dpeel fun b1 l2 n3 d1=>dpeel fun b4 l5 n6 d4=> ?_⟩
    rintro _ rfl
    refine cond_f rfl ?_
    rw [d1,d4]
    refine ⟨⟨m1,m2,by decide,by decide⟩,?_⟩
    rw [show decide (Dy.signS (Dy.reLo ⟨s,d,e⟩ ⟨s',d',e'⟩ (N:Int)) (Dy.reHi ⟨s,d,e⟩ ⟨s',d',e'⟩ (N:Int))=0)=false from decide_eq_false hs2,cond_false]
    refine dpeel fun b8 l9 n10 d8=> ?_
    rw [k1 hq] at d8
    rintro _ rfl
    have hq2:=hq
    unfold Dy.okR at hq2
    rw [show decide (Dy.signS (Dy.reLo ⟨s,d,e⟩ ⟨s',d',e'⟩ (N:Int)) (Dy.reHi ⟨s,d,e⟩ ⟨s',d',e'⟩ (N:Int))=0)=false from decide_eq_false hs2] at hq2
    refine cond_t hq2 ?_
    rw [d8]
    refine ⟨hb,dpeel fun b12 l13 n14 d12=> ?_⟩
    rw [←d12] at hK
    exact hK
   |false=>
    have hlt:n<4700:=by
     refine Decidable.byContradiction fun c2=> ?_
     have h2:=k2 (by omega)
     rw [h2] at hq
     cases hq
    exact absurd (show (4700:Int)≤n from hbn) (by omega)
  |succ fu ih=>
   intro n hf hbn n1 n2 hK
   obtain ⟨N,hN⟩:∃N:Nat,(if (6000:Int)<n then (6000:Int) else n)=N:=⟨(if (6000:Int)<n then (6000:Int) else n).toNat,by split<;>omega⟩
   have hN2:(20:Int)≤N∧(N:Int)≤6000:=by
    rw [←hN]
    split<;>omega
   have hNn:(n≤6000∧(N:Int)=n)∨(6000<n∧(N:Int)=6000):=by
    rcases Int.lt_or_le 6000 n with c1|c1
    ·exact .inr ⟨c1,by rw [←hN,if_pos c1]⟩
    ·exact .inl ⟨c1,by rw [←hN,if_neg (by omega)]⟩
   have hmin:min n 6000=(N:Int):=by rw [←hN];split<;>omega
   obtain ⟨m1,m2,k1,k2⟩:=Dy.re_known c.off (n:=N) (by omega) (by omega)
   cases hq:Dy.okR (Dy.reLo ⟨s,d,e⟩ ⟨s',d',e'⟩ (N:Int)) (Dy.reHi ⟨s,d,e⟩ ⟨s',d',e'⟩ (N:Int)) 64 with
   |true=>
    have hs:Dy.setN (fun n=>Dy.okR (Dy.reLo ⟨s,d,e⟩ ⟨s',d',e'⟩ n) (Dy.reHi ⟨s,d,e⟩ ⟨s',d',e'⟩ n) 64) (fu+1+4) n=n:=by
     show (if _ then n else _)=n
     rw [if_pos]
     show Dy.okR (Dy.reLo ⟨s,d,e⟩ ⟨s',d',e'⟩ (min n 6000)) (Dy.reHi ⟨s,d,e⟩ ⟨s',d',e'⟩ (min n 6000)) 64=true
     rw [hmin]
     exact hq
    rw [hs] at hK
    have hs2:=(Dy.okR_iff.1 hq).1
    refine iterN_last ?_
    rw [vc_span_Settle2_1,hN]
    refine ⟨⟨c,by omega,by omega⟩,dpeel fun b1 l2 n3 d1=>dpeel fun b4 l5 n6 d4=> ?_⟩
    rintro _ rfl
    refine cond_f rfl ?_
    rw [d1,d4]
    refine ⟨⟨m1,m2,by decide,by decide⟩,?_⟩
    rw [show decide (Dy.signS (Dy.reLo ⟨s,d,e⟩ ⟨s',d',e'⟩ (N:Int)) (Dy.reHi ⟨s,d,e⟩ ⟨s',d',e'⟩ (N:Int))=0)=false from decide_eq_false hs2,cond_false]
    refine dpeel fun b8 l9 n10 d8=> ?_
    rw [k1 hq] at d8
    rintro _ rfl
    have hq2:=hq
    unfold Dy.okR at hq2
    rw [show decide (Dy.signS (Dy.reLo ⟨s,d,e⟩ ⟨s',d',e'⟩ (N:Int)) (Dy.reHi ⟨s,d,e⟩ ⟨s',d',e'⟩ (N:Int))=0)=false from decide_eq_false hs2] at hq2
    refine cond_t hq2 ?_
    rw [d8]
    refine ⟨hb,dpeel fun b12 l13 n14 d12=> ?_⟩
    rw [←d12] at hK
    exact hK
   |false=>
    have hlt:n<4700:=by
     refine Decidable.byContradiction fun c2=> ?_
     have h2:=k2 (by omega)
     rw [h2] at hq
     cases hq
    have hs:Dy.setN (fun n=>Dy.okR (Dy.reLo ⟨s,d,e⟩ ⟨s',d',e'⟩ n) (Dy.reHi ⟨s,d,e⟩ ⟨s',d',e'⟩ n) 64) (fu+1+4) n=Dy.setN (fun n=>Dy.okR (Dy.reLo ⟨s,d,e⟩ ⟨s',d',e'⟩ n) (Dy.reHi ⟨s,d,e⟩ ⟨s',d',e'⟩ n) 64) (fu+4) (n+(n/2+200)):=by
     show (if _ then n else _)=_
     rw [if_neg]
     show¬Dy.okR (Dy.reLo ⟨s,d,e⟩ ⟨s',d',e'⟩ (min n 6000)) (Dy.reHi ⟨s,d,e⟩ ⟨s',d',e'⟩ (min n 6000)) 64=true
     rw [hmin,hq]
     decide
    rw [hs] at hK
    have ht:n.tdiv 2=n/2:=Int.tdiv_eq_ediv_of_nonneg (by omega)
    have hw:IntKind.i64.wrap (n+IntKind.i64.wrap (IntKind.i64.wrap (n.tdiv 2)+200))=n+(n/2+200):=by
     rw [ht,wrap_i64 (n:=n/2) (by omega) (by omega),wrap_i64 (n:=n/2+200) (by omega) (by omega),wrap_i64 (by omega) (by omega)]
    obtain ⟨j,hj⟩:=ih (n+(n/2+200)) (by omega) (Dy.bndS_next fu hbn n1 (by omega)) (by omega) (by omega) hK
    refine iterN_next j ?_
    rw [vc_span_Settle2_1,hN,hw]
    refine ⟨⟨c,by omega,by omega⟩,dpeel fun b1 l2 n3 d1=>dpeel fun b4 l5 n6 d4=> ?_⟩
    rintro _ rfl
    refine cond_f rfl ?_
    rw [d1,d4]
    refine ⟨⟨m1,m2,by decide,by decide⟩,dpeel fun b8 l9 n10 d8=> ?_⟩
    rintro _ rfl
    exact cond_f hq hj
 exact key 6 n (by decide) n1 n1 n2 hK
theorem settle3 {t:Bool} {l:List Nat} {i:Int} {t':Bool} {l':List Nat} {i':Int} {f m a b k k':Int} {g h:Bool} {s:Bool} {d:List Nat} {e:Int} {s':Bool} {d':List Nat} {e':Int} {u:Bool} {v:List Nat} {w:Int} {u':Bool} {v':List Nat} {w':Int} {o:Bool} {q:List Nat} {r:Int} {o':Bool} {q':List Nat} {r':Int} {x:Bool} {y:List Nat} {z n:Int} {K:Exit→List AV→Prop} (c:Dy.capOk ⟨s,d,e⟩ ⟨s',d',e'⟩ ⟨t,l,i⟩ ⟨t',l',i'⟩ ⟨u,v,w⟩ ⟨u',v',w'⟩ ⟨o,q,r⟩ ⟨o',q',r'⟩ h) (n1:104≤n) (n2:n≤100000)
  (hK:K .ret [.fn 87 [.cref [1,2] [.fn 80 [.cref [1,2] [.bool t,.dig [1,2] l,.num .i64 i,.bool t',.dig [1,2] l',.num .i64 i'],.cref [1,2] [.num .u8 f,.num .u8 m,.num .u64 a,.num .u64 b,.num .u8 k,.num .u8 k',.bool g,.bool h,.bool s,.dig [1,2] d,.num .i64 e,.bool s',.dig [1,2] d',.num .i64 e'],.cref [1,2] [.bool u,.dig [1,2] v,.num .i64 w,.bool u',.dig [1,2] v',.num .i64 w'],.cref [1,2] [.bool o,.dig [1,2] q,.num .i64 r,.bool o',.dig [1,2] q',.num .i64 r']]]],.boxv [.bool (Dy.beyD (Dy.imD ⟨s,d,e⟩ ⟨s',d',e'⟩)).neg,.dig [2] (Dy.beyD (Dy.imD ⟨s,d,e⟩ ⟨s',d',e'⟩)).mag,.num .i64 (Dy.beyD (Dy.imD ⟨s,d,e⟩ ⟨s',d',e'⟩)).exp],.num .i64 (Dy.setN (fun n=>Dy.okR (Dy.imLo ⟨s,d,e⟩ ⟨s',d',e'⟩ n) (Dy.imHi ⟨s,d,e⟩ ⟨s',d',e'⟩ n) 64) 10 n)]):
  ∃j,iterN Tryz.prog (look tabC2) lamSet 1 30 keepSet (bodyN Tryz.f85 0) j [.fn 87 [.cref [1,2] [.fn 80 [.cref [1,2] [.bool t,.dig [1,2] l,.num .i64 i,.bool t',.dig [1,2] l',.num .i64 i'],.cref [1,2] [.num .u8 f,.num .u8 m,.num .u64 a,.num .u64 b,.num .u8 k,.num .u8 k',.bool g,.bool h,.bool s,.dig [1,2] d,.num .i64 e,.bool s',.dig [1,2] d',.num .i64 e'],.cref [1,2] [.bool u,.dig [1,2] v,.num .i64 w,.bool u',.dig [1,2] v',.num .i64 w'],.cref [1,2] [.bool o,.dig [1,2] q,.num .i64 r,.bool o',.dig [1,2] q',.num .i64 r']]]],.boxv [.bool x,.dig [2] y,.num .i64 z],.num .i64 n] K:=by
 have hb:=(Dy.bey_ok c.off).2
 have key:∀(fu:Nat) (n:Int),fu≤6→Dy.bndS fu≤n→104≤n→n≤100000→K .ret [.fn 87 [.cref [1,2] [.fn 80 [.cref [1,2] [.bool t,.dig [1,2] l,.num .i64 i,.bool t',.dig [1,2] l',.num .i64 i'],.cref [1,2] [.num .u8 f,.num .u8 m,.num .u64 a,.num .u64 b,.num .u8 k,.num .u8 k',.bool g,.bool h,.bool s,.dig [1,2] d,.num .i64 e,.bool s',.dig [1,2] d',.num .i64 e'],.cref [1,2] [.bool u,.dig [1,2] v,.num .i64 w,.bool u',.dig [1,2] v',.num .i64 w'],.cref [1,2] [.bool o,.dig [1,2] q,.num .i64 r,.bool o',.dig [1,2] q',.num .i64 r']]]],.boxv [.bool (Dy.beyD (Dy.imD ⟨s,d,e⟩ ⟨s',d',e'⟩)).neg,.dig [2] (Dy.beyD (Dy.imD ⟨s,d,e⟩ ⟨s',d',e'⟩)).mag,.num .i64 (Dy.beyD (Dy.imD ⟨s,d,e⟩ ⟨s',d',e'⟩)).exp],.num .i64 (Dy.setN (fun n=>Dy.okR (Dy.imLo ⟨s,d,e⟩ ⟨s',d',e'⟩ n) (Dy.imHi ⟨s,d,e⟩ ⟨s',d',e'⟩ n) 64) (fu+4) n)]→
   ∃j,iterN Tryz.prog (look tabC2) lamSet 1 30 keepSet (bodyN Tryz.f85 0) j [.fn 87 [.cref [1,2] [.fn 80 [.cref [1,2] [.bool t,.dig [1,2] l,.num .i64 i,.bool t',.dig [1,2] l',.num .i64 i'],.cref [1,2] [.num .u8 f,.num .u8 m,.num .u64 a,.num .u64 b,.num .u8 k,.num .u8 k',.bool g,.bool h,.bool s,.dig [1,2] d,.num .i64 e,.bool s',.dig [1,2] d',.num .i64 e'],.cref [1,2] [.bool u,.dig [1,2] v,.num .i64 w,.bool u',.dig [1,2] v',.num .i64 w'],.cref [1,2] [.bool o,.dig [1,2] q,.num .i64 r,.bool o',.dig [1,2] q',.num .i64 r']]]],.boxv [.bool x,.dig [2] y,.num .i64 z],.num .i64 n] K:=by
  intro fu
  induction fu with
  |zero=>
   intro n hf hbn n1 n2 hK
   obtain ⟨N,hN⟩:∃N:Nat,(if (6000:Int)<n then (6000:Int) else n)=N:=⟨(if (6000:Int)<n then (6000:Int) else n).toNat,by split<;>omega⟩
   have hN2:(20:Int)≤N∧(N:Int)≤6000:=by
    rw [←hN]
    split<;>omega
   have hNn:(n≤6000∧(N:Int)=n)∨(6000<n∧(N:Int)=6000):=by
    rcases Int.lt_or_le 6000 n with c1|c1
    ·exact .inr ⟨c1,by rw [←hN,if_pos c1]⟩
    ·exact .inl ⟨c1,by rw [←hN,if_neg (by omega)]⟩
   have hmin:min n 6000=(N:Int):=by rw [←hN];split<;>omega
   obtain ⟨m1,m2,k1,k2⟩:=Dy.im_known c.off (n:=N) (by omega) (by omega)
   cases hq:Dy.okR (Dy.imLo ⟨s,d,e⟩ ⟨s',d',e'⟩ (N:Int)) (Dy.imHi ⟨s,d,e⟩ ⟨s',d',e'⟩ (N:Int)) 64 with
   |true=>
    have hs:Dy.setN (fun n=>Dy.okR (Dy.imLo ⟨s,d,e⟩ ⟨s',d',e'⟩ n) (Dy.imHi ⟨s,d,e⟩ ⟨s',d',e'⟩ n) 64) (0+4) n=n:=by
     show (if _ then n else _)=n
     rw [if_pos]
     show Dy.okR (Dy.imLo ⟨s,d,e⟩ ⟨s',d',e'⟩ (min n 6000)) (Dy.imHi ⟨s,d,e⟩ ⟨s',d',e'⟩ (min n 6000)) 64=true
     rw [hmin]
     exact hq
    rw [hs] at hK
    have hs2:=(Dy.okR_iff.1 hq).1
    refine iterN_last ?_
    rw [vc_span_Settle3_1,hN]
    refine ⟨⟨c,by omega,by omega⟩,dpeel fun b1 l2 n3 d1=>dpeel fun b4 l5 n6 d4=> ?_⟩
    rintro _ rfl
    refine cond_f rfl ?_
    rw [d1,d4]
    refine ⟨⟨m1,m2,by decide,by decide⟩,?_⟩
    rw [show decide (Dy.signS (Dy.imLo ⟨s,d,e⟩ ⟨s',d',e'⟩ (N:Int)) (Dy.imHi ⟨s,d,e⟩ ⟨s',d',e'⟩ (N:Int))=0)=false from decide_eq_false hs2,cond_false]
    refine dpeel fun b8 l9 n10 d8=> ?_
    rw [k1 hq] at d8
    rintro _ rfl
    have hq2:=hq
    unfold Dy.okR at hq2
    rw [show decide (Dy.signS (Dy.imLo ⟨s,d,e⟩ ⟨s',d',e'⟩ (N:Int)) (Dy.imHi ⟨s,d,e⟩ ⟨s',d',e'⟩ (N:Int))=0)=false from decide_eq_false hs2] at hq2
    refine cond_t hq2 ?_
    rw [d8]
    refine ⟨hb,dpeel fun b12 l13 n14 d12=> ?_⟩
    rw [←d12] at hK
    exact hK
   |false=>
    have hlt:n<4700:=by
     refine Decidable.byContradiction fun c2=> ?_
     have h2:=k2 (by omega)
     rw [h2] at hq
     cases hq
    exact absurd (show (4700:Int)≤n from hbn) (by omega)
  |succ fu ih=>
   intro n hf hbn n1 n2 hK
   obtain ⟨N,hN⟩:∃N:Nat,(if (6000:Int)<n then (6000:Int) else n)=N:=⟨(if (6000:Int)<n then (6000:Int) else n).toNat,by split<;>omega⟩
   have hN2:(20:Int)≤N∧(N:Int)≤6000:=by
    rw [←hN]
    split<;>omega
   have hNn:(n≤6000∧(N:Int)=n)∨(6000<n∧(N:Int)=6000):=by
    rcases Int.lt_or_le 6000 n with c1|c1
    ·exact .inr ⟨c1,by rw [←hN,if_pos c1]⟩
    ·exact .inl ⟨c1,by rw [←hN,if_neg (by omega)]⟩
   have hmin:min n 6000=(N:Int):=by rw [←hN];split<;>omega
   obtain ⟨m1,m2,k1,k2⟩:=Dy.im_known c.off (n:=N) (by omega) (by omega)
   cases hq:Dy.okR (Dy.imLo ⟨s,d,e⟩ ⟨s',d',e'⟩ (N:Int)) (Dy.imHi ⟨s,d,e⟩ ⟨s',d',e'⟩ (N:Int)) 64 with
   |true=>
    have hs:Dy.setN (fun n=>Dy.okR (Dy.imLo ⟨s,d,e⟩ ⟨s',d',e'⟩ n) (Dy.imHi ⟨s,d,e⟩ ⟨s',d',e'⟩ n) 64) (fu+1+4) n=n:=by
     show (if _ then n else _)=n
     rw [if_pos]
     show Dy.okR (Dy.imLo ⟨s,d,e⟩ ⟨s',d',e'⟩ (min n 6000)) (Dy.imHi ⟨s,d,e⟩ ⟨s',d',e'⟩ (min n 6000)) 64=true
     rw [hmin]
     exact hq
    rw [hs] at hK
    have hs2:=(Dy.okR_iff.1 hq).1
    refine iterN_last ?_
    rw [vc_span_Settle3_1,hN]
    refine ⟨⟨c,by omega,by omega⟩,dpeel fun b1 l2 n3 d1=>dpeel fun b4 l5 n6 d4=> ?_⟩
    rintro _ rfl
    refine cond_f rfl ?_
    rw [d1,d4]
    refine ⟨⟨m1,m2,by decide,by decide⟩,?_⟩
    rw [show decide (Dy.signS (Dy.imLo ⟨s,d,e⟩ ⟨s',d',e'⟩ (N:Int)) (Dy.imHi ⟨s,d,e⟩ ⟨s',d',e'⟩ (N:Int))=0)=false from decide_eq_false hs2,cond_false]
    refine dpeel fun b8 l9 n10 d8=> ?_
    rw [k1 hq] at d8
    rintro _ rfl
    have hq2:=hq
    unfold Dy.okR at hq2
    rw [show decide (Dy.signS (Dy.imLo ⟨s,d,e⟩ ⟨s',d',e'⟩ (N:Int)) (Dy.imHi ⟨s,d,e⟩ ⟨s',d',e'⟩ (N:Int))=0)=false from decide_eq_false hs2] at hq2
    refine cond_t hq2 ?_
    rw [d8]
    refine ⟨hb,dpeel fun b12 l13 n14 d12=> ?_⟩
    rw [←d12] at hK
    exact hK
   |false=>
    have hlt:n<4700:=by
     refine Decidable.byContradiction fun c2=> ?_
     have h2:=k2 (by omega)
     rw [h2] at hq
     cases hq
    have hs:Dy.setN (fun n=>Dy.okR (Dy.imLo ⟨s,d,e⟩ ⟨s',d',e'⟩ n) (Dy.imHi ⟨s,d,e⟩ ⟨s',d',e'⟩ n) 64) (fu+1+4) n=Dy.setN (fun n=>Dy.okR (Dy.imLo ⟨s,d,e⟩ ⟨s',d',e'⟩ n) (Dy.imHi ⟨s,d,e⟩ ⟨s',d',e'⟩ n) 64) (fu+4) (n+(n/2+200)):=by
     show (if _ then n else _)=_
     rw [if_neg]
     show¬Dy.okR (Dy.imLo ⟨s,d,e⟩ ⟨s',d',e'⟩ (min n 6000)) (Dy.imHi ⟨s,d,e⟩ ⟨s',d',e'⟩ (min n 6000)) 64=true
     rw [hmin,hq]
     decide
    rw [hs] at hK
    have ht:n.tdiv 2=n/2:=Int.tdiv_eq_ediv_of_nonneg (by omega)
    have hw:IntKind.i64.wrap (n+IntKind.i64.wrap (IntKind.i64.wrap (n.tdiv 2)+200))=n+(n/2+200):=by
     rw [ht,wrap_i64 (n:=n/2) (by omega) (by omega),wrap_i64 (n:=n/2+200) (by omega) (by omega),wrap_i64 (by omega) (by omega)]
    obtain ⟨j,hj⟩:=ih (n+(n/2+200)) (by omega) (Dy.bndS_next fu hbn n1 (by omega)) (by omega) (by omega) hK
    refine iterN_next j ?_
    rw [vc_span_Settle3_1,hN,hw]
    refine ⟨⟨c,by omega,by omega⟩,dpeel fun b1 l2 n3 d1=>dpeel fun b4 l5 n6 d4=> ?_⟩
    rintro _ rfl
    refine cond_f rfl ?_
    rw [d1,d4]
    refine ⟨⟨m1,m2,by decide,by decide⟩,dpeel fun b8 l9 n10 d8=> ?_⟩
    rintro _ rfl
    exact cond_f hq hj
 exact key 6 n (by decide) n1 n1 n2 hK
theorem loop_span_Settle:LoopOk Tryz.prog (look tabC2) lamSet 1 30 keepSet (bodyN Tryz.f85 0) lsSet:=by
 intro vals r h K hK
 unfold lsSet at h
 split at h
 ·unfold lsCaps at h
  split at h
  ·split at h
   ·rename_i cF
    subst cF
    split at h
    ·rename_i cG
     subst cG
     cases h
     simp only [evLR] at hK
     exact settle2 hK.1.1 hK.1.2.1 hK.1.2.2 hK.2
    ·split at h
     ·rename_i cG
      subst cG
      cases h
      simp only [evLR] at hK
      exact settle3 hK.1.1 hK.1.2.1 hK.1.2.2 hK.2
     ·cases h
   ·cases h
  ·cases h
 ·cases h
theorem ok_span_Settle (args:List AV) (s:Spec) (h:cSettle args=some s) (hp:andO s.pre True):Contract Tryz.prog Inv 85 args s.res:=by
 unfold cSettle at h
 split at h
 ·split at h
  ·rename_i cF
   subst cF
   split at h
   ·rename_i cG
    subst cG
    cases h
    obtain ⟨hp, -⟩:=hp
    refine contract_at false 30 lamSet ok_tabC2 Tryz.func85 (by kernel_rfl) rfl (loops1 (by kernel_rfl) (by kernel_rfl) loop_span_Settle) fun hok=> ?_
    rw [vc_span_Settle2]
    exact ⟨⟨hp,by decide,by decide⟩,rfl⟩
   ·split at h
    ·rename_i cG
     subst cG
     cases h
     obtain ⟨hp, -⟩:=hp
     refine contract_at false 30 lamSet ok_tabC2 Tryz.func85 (by kernel_rfl) rfl (loops1 (by kernel_rfl) (by kernel_rfl) loop_span_Settle) fun hok=> ?_
     rw [vc_span_Settle3]
     exact ⟨⟨hp,by decide,by decide⟩,rfl⟩
    ·cases h
  ·cases h
 ·cases h
theorem ok_tabC3:PhiOk Tryz.prog Inv (look tabC3):=look_cons ok_tabC2 ok_span_Settle
end Go.AI

namespace Go.Dy
set_option maxRecDepth 100000
theorem partD_fact {R:Dyd} (h:mayD R=true) (h0:R.mag≠[]):(partD R).ok∧(partD R).top=topD R∧ -20000000≤(partD R).top∧(partD R).top≤20000000:=by
 obtain ⟨s,m,e⟩:=R
 obtain ⟨a,b,c,d⟩:=partD_facts h h0
 exact ⟨a,rfl,c,d⟩
theorem wordN_good {f m:Int} (hf:isF f) {neg:Bool} {p:Prt} (hp:p.ok) (ht: -20000000≤p.top∧p.top≤20000000):errW f ((wordN f m neg p).1:Nat)=0:=by
 refine errW_of hf ?_
 rw [shS_of hf]
 have hi:=wInf_lt hf
 have hp0:=Nat.two_pow_pos (wBit f)
 unfold wordN
 split
 ·unfold overW
  simp only
  split<;>split<;>omega
 ·rename_i c
  obtain ⟨z1,z2,z3,z4,z5, -⟩:=word_size hf (m:=m) (neg:=neg) hp rfl rfl ht c
  simp only
  have hz:(unitE f p-wLow f).toNat*2^wFrac f+(unitsN p m neg (unitE f p)).1<2^wBit f:=by
   by_cases h0:(unitsN p m neg (unitE f p)).1=0
   ·rw [h0,z4 h0,Int.sub_self]
    simpa using hp0
   ·obtain ⟨y1,y2,y3⟩:=z5 h0
    have y4:=z3 y1
    rw [←y3]
    exact (sizeW_lt hf (d:=form neg (unitsN p m neg (unitE f p)).1 (unitE f p)) z2 y1 y4.1 y4.2).1
  split<;>omega
theorem rootW_good {f m:Int} (hf:isF f) {d:Dyd} (hd:mayD d=true) (hs:d.neg=false):errW f ((rootW f m d).1:Nat)=0:=by
 unfold rootW
 split
 ·refine errW_of hf ?_
  rw [shS_of hf]
  have hp0:=Nat.two_pow_pos (wBit f)
  simp only
  omega
 ·rename_i c
  obtain ⟨r1,r2, -⟩:=rootF_ok hd hs c (n:=64) (by decide) (by decide)
  rw [show ((64:Nat):Int)=64 from rfl] at r1 r2
  generalize rootF d 64=R at*
  obtain ⟨k1,k2,k3,k4⟩:=partD_fact r1 r2
  exact wordN_good hf (p:=⟨(partD R.1).h,(partD R.1).top,(partD R.1).more||R.2⟩) k1 ⟨k3,k4⟩
theorem otherM_ok {f m:Int} (h:errM f m=0) (neg:Bool):errM f (otherM m neg)=0:=by
 obtain ⟨hf,m1,m2, -⟩:=errM_zero h
 unfold errM
 rw [isFb_of hf,cond_true]
 unfold otherM
 split
 ·rw [if_pos (by omega)]
 ·rw [if_pos (by omega)]
def wordOk (f:Int) (neg:Bool) (r:Nat×Int):Prop:=∃z:Nat,r.1=signW f neg+z∧z<wInf f∧(z=0→r.2=24)
def sizeOk (f:Int) (neg:Bool) (r:Nat×Int):Prop:=∃z:Nat,r.1=signW f neg+z∧z<wInf f
theorem wordOk.size {f:Int} {neg:Bool} {r:Nat×Int} (h:wordOk f neg r):sizeOk f neg r:=by
 obtain ⟨z,h1,h2, -⟩:=h
 exact ⟨z,h1,h2⟩
theorem wordN_ok {f m:Int} (hf:isF f) {neg:Bool} {p:Prt} (hp:p.ok) (ht:p.top+1≤wWide f):wordOk f neg (wordN f m neg p):=by
 obtain ⟨z,h1,h2,h3, -⟩:=wordN_facts hf (m:=m) (neg:=neg) hp ht
 exact ⟨z,h1,h2,h3⟩
theorem roundW_ok {f m:Int} (hf:isF f) {d:Dyd} (hd:mayD d=true) (h0:d.mag≠[]) (ht:topD d+1≤wWide f):wordOk f d.neg (roundW f m d):=by
 unfold roundW
 rw [if_neg h0]
 obtain ⟨k1, -⟩:=partD_fact hd h0
 exact wordN_ok hf k1 ht
theorem root_top {d:Dyd} (hd:mayD d=true) (hs:d.neg=false) (h0:d.mag≠[]) {n:Nat} (hn:1≤n):2*topD (rootF d n).1≤topD d+1:=by
 obtain ⟨V,hV⟩:∃V:Nat, -(2*V:Int)≤d.exp-(2*n+4):=⟨(2*n+4-d.exp).toNat,by omega⟩
 obtain ⟨L,u, -, -,l1, -, -, -, -,q,x1,h1,h2,h3,h4,h5, -⟩:=root_span hd hs h0 hn hV (at_nat hs _)
 have hq:q≠0:=fun c=>by rw [c,bl_zero] at h2;omega
 rw [h1,top_form hq,h2]
 have ht:topD d=d.exp+bl (val d.mag):=by unfold topD;rw [if_neg h0]
 have a1:=lt_two_bl (val d.mag)
 have a2:=Nat.mul_lt_mul_of_pos_right a1 (Nat.two_pow_pos (d.exp - -(2*V:Int)).toNat)
 rw [←Nat.pow_add] at a2
 have b1:2^(n-1)≤q:=lt_bl.1 (by omega)
 have b2:=Nat.mul_le_mul_right (2^(x1+V).toNat) b1
 rw [←h4,←Nat.pow_add] at b2
 have b3:=Nat.mul_le_mul b2 b2
 rw [pow_sq] at b3
 have b4:=(Nat.pow_lt_pow_iff_right (a:=2) (by decide)).1 (Nat.lt_of_le_of_lt b3 (Nat.lt_of_le_of_lt l1 a2))
 omega
theorem rootN_ok {f m:Int} (hf:isF f) {d:Dyd} (hd:mayD d=true) (hs:d.neg=false) (h0:d.mag≠[]) (ht:topD d≤wWide f+3) (neg:Bool):wordOk f neg (rootN f m d neg):=by
 have hw:wordOk f false (rootW f (otherM m neg) d):=by
  unfold rootW
  rw [if_neg h0]
  obtain ⟨r1,r2, -⟩:=rootF_ok hd hs h0 (n:=64) (by decide) (by decide)
  have r3:=root_top hd hs h0 (n:=64) (by decide)
  rw [show ((64:Nat):Int)=64 from rfl] at r1 r2 r3
  generalize rootF d 64=R at*
  obtain ⟨k1,k2, -⟩:=partD_fact r1 r2
  refine wordN_ok hf (p:=⟨(partD R.1).h,(partD R.1).top,(partD R.1).more||R.2⟩) k1 ?_
  show (partD R.1).top+1≤wWide f
  rw [k2]
  rcases fmt_facts hf with c|c<;>omega
 obtain ⟨z,e1,e2,e3⟩:=hw
 unfold rootN
 cases neg
 ·exact ⟨z,e1,e2,e3⟩
 ·refine ⟨z,?_,e2,e3⟩
  have e1:(rootW f (otherM m true) d).1=z:=by rw [e1];exact Nat.zero_add z
  rw [if_pos rfl,e1]
  have hi:=(wInf_lt hf).1
  have hz:wSize f z=z:=Nat.mod_eq_of_lt (by omega)
  unfold negW wClass wNeg
  rw [hz]
  have hp:0<2^wFrac f:=Nat.two_pow_pos _
  rw [if_neg (by split<;>(try split)<;>(try split)<;>(try split)<;>omega),if_neg (by rw [decide_eq_true_eq];omega)]
  unfold signW
  rw [if_pos rfl,Nat.add_comm]
theorem rootN_size {f m:Int} (hf:isF f) {d:Dyd} (hd:mayD d=true) (hs:d.neg=false) (ht:topD d≤wWide f+3):sizeOk f false (rootN f m d false):=by
 by_cases h0:d.mag=[]
 ·unfold rootN rootW
  rw [if_pos h0]
  exact ⟨0,rfl,(wInf_lt hf).2⟩
 ·exact (rootN_ok hf hd hs h0 ht false).size
theorem wVal_ok {f:Int} (hf:isF f) {w:Nat} (hc:wClass f w<4):
  mayD (wVal f w)=true∧bl (val (wVal f w).mag)≤53∧ -1074≤(wVal f w).exp∧topD (wVal f w)≤wWide f∧((wVal f w).mag=[] ↔ wClass f w=1)∧((wVal f w).mag≠[]→(wVal f w).neg=wNeg f w)∧((wVal f w).mag=[]→(wVal f w).neg=false):=by
 have hp:0<2^wFrac f:=Nat.two_pow_pos _
 have hF:=fmt_facts hf
 have hsz:wSize f w<wInf f:=by
  unfold wClass at hc
  have:=(wInf_lt hf).2
  split at hc
  ·omega
  ·split at hc
   ·unfold wInf
    have:1*2^wFrac f≤wMost f*2^wFrac f:=Nat.mul_le_mul_right _ (by omega)
    omega
   ·split at hc
    ·assumption
    ·split at hc<;>omega
 have hexp:wExp f w<wMost f:=by
  unfold wExp
  rw [Nat.div_lt_iff_lt_mul hp]
  exact hsz
 have hfr:wFr f w<2^wFrac f:=Nat.mod_lt _ hp
 have hdm:2^wFrac f*wExp f w+wFr f w=wSize f w:=Nat.div_add_mod _ _
 obtain ⟨n,hn⟩:∃n,wFr f w+(if wExp f w=0 then 0 else 2^wFrac f)=n:=⟨_,rfl⟩
 obtain ⟨x,hx⟩:∃x:Int,(if wExp f w=0 then (0:Int) else (wExp f w:Int)-1)+wLow f=x:=⟨_,rfl⟩
 have hv:wVal f w=form (wNeg f w) n x:=by unfold wVal;rw [hn,hx]
 have hx1:wLow f≤x∧x+(wFrac f+1)≤wWide f:=by
  rw [←hx]
  split<;>(rcases hF with c|c<;>omega)
 have hn2:n<2^(wFrac f+1):=by
  rw [Nat.pow_succ,←hn]
  split<;>omega
 have hbn:bl n≤wFrac f+1:=bl_le.2 hn2
 have hn0:n=0 ↔ wSize f w=0:=by
  rw [←hn,←hdm]
  by_cases c:wExp f w=0
  ·rw [if_pos c,c,Nat.mul_zero]
   omega
  ·rw [if_neg c]
   have:=Nat.mul_le_mul_left (2^wFrac f) (show 1≤wExp f w by omega)
   omega
 have hcl:wClass f w=1 ↔ wSize f w=0:=by
  unfold wClass
  constructor
  ·intro h
   refine Decidable.byContradiction fun c=> ?_
   rw [if_neg c] at h
   (repeat' split at h)<;>omega
  ·intro h
   rw [if_pos h]
 have hfit:=(fit_form (s:=wNeg f w) (n:=n) (e:=x) (L:=53) (E:=3000) (by omega) (by omega) (by omega) (by decide) (by decide)).1
 rw [hv,hcl,←hn0]
 refine ⟨hfit.may,hfit.bits,?_,?_,?_,?_,?_⟩
 ·exact exp_form (by omega) (by omega)
 ·by_cases c:n=0
  ·subst c
   show (0:Int)≤wWide f
   omega
  ·rw [top_form c]
   omega
 ·constructor
  ·intro h
   refine Decidable.byContradiction fun c=> ?_
   rw [form_pos c] at h
   have h0:=dg_eq_nil.1 h
   have h1:=div_tz_odd c
   omega
  ·intro h
   subst h
   rfl
 ·intro h
  have c:n≠0:=fun c=>by subst c;exact h rfl
  rw [form_pos c]
 ·intro h
  by_cases c:n=0
  ·subst c;rfl
  ·exfalso
   rw [form_pos c] at h
   have h0:=dg_eq_nil.1 h
   have h1:=div_tz_odd c
   omega
theorem numOk.offs {f m:Int} {X Y:Dyd} {h:Bool} (n:numOk f m X Y h) (hl:(rootF (sqD X Y) 4500).2=true):offZ (absD X) (absD Y):=by
 have a:∀{d:Dyd},mayD d=true→mayD (absD d)=true:=fun {d} h=>by
  obtain ⟨s,m,e⟩:=d
  have h:=h
  show mayD ⟨false,m,e⟩=true
  rw [mayD_iff] at h ⊢
  exact ⟨h.1,h.2.elim (fun c=> .inl ⟨c.1,rfl,c.2.2⟩) .inr⟩
 exact ⟨a n.mx,rfl,a n.my,rfl,n.y0,n.bx,n.by_,n.ex,n.ey,n.tx,n.ty,hl⟩
end Go.Dy

namespace Go.Dy
set_option maxRecDepth 100000
theorem mulD_abs (X:Dyd):mulD X X=mulD (absD X) (absD X):=by
 unfold mulD absD
 simp
theorem mul_may {X:Dyd} (hm:mayD X=true) (hb:bl (val X.mag)≤53) (he: -1074≤X.exp) (ht:topD X≤1024):
  mayD (absD X)=true∧Fit (absD X) 1100 1100∧Fit X 1100 1100∧Fit (mulD X X) 2200 4400∧ -2148≤(mulD X X).exp:=by
 have ha:mayD (absD X)=true:=by
  obtain ⟨s,m,e⟩:=X
  have h:=hm
  show mayD ⟨false,m,e⟩=true
  rw [mayD_iff] at h ⊢
  exact ⟨h.1,h.2.elim (fun c=> .inl ⟨c.1,rfl,c.2.2⟩) .inr⟩
 have fa:=offZ_fit ha hb he ht
 have fx:Fit X 1100 1100:=⟨hm,fa.bits,fa.lo,fa.hi⟩
 have f1:=(fit_mul fa fa (by decide) (by decide)).1
 have x1: -(2148:Int)≤(mulD (absD X) (absD X)).exp:=exp_form (by show -(2148:Int)≤X.exp+X.exp;omega) (by omega)
 rw [mulD_abs]
 exact ⟨ha,fa,fx,f1,x1⟩
theorem sq_facts {f m:Int} {X Y:Dyd} {h:Bool} (n:numOk f m X Y h) {V:Nat} (hV:V=6000) {T:Nat} (tx:topD X≤T) (ty:topD Y≤T) (hT:T≤1024):
  ∃A B:Nat,at_ (absD X) (-(V:Int))=A∧at_ (absD Y) (-(V:Int))=B∧at_ (sqD X Y) (-(2*V:Int))=((A*A+B*B:Nat):Int)∧B≠0∧A<2^(V+T)∧B<2^(V+T)∧
   mayD (sqD X Y)=true∧(sqD X Y).neg=false∧(sqD X Y).mag≠[]∧bl (val (sqD X Y).mag)≤4500∧ -2148≤(sqD X Y).exp∧(sqD X Y).exp≤3000:=by
 obtain ⟨ax,fax,fx,fxx,xx⟩:=mul_may n.mx n.bx n.ex n.tx
 obtain ⟨ay,fay,fy,fyy,xy⟩:=mul_may n.my n.by_ n.ey n.ty
 rw [mulD_abs] at fxx xx fyy xy
 have ex: -1074≤(absD X).exp:=n.ex
 have ey: -1074≤(absD Y).exp:=n.ey
 obtain ⟨A,hA,lA, -⟩:=top_at ax rfl (V:=V) (T:=T) (by omega) tx
 obtain ⟨B,hB,lB,B0⟩:=top_at ay rfl (V:=V) (T:=T) (by omega) ty
 obtain ⟨A',hA',lA', -⟩:=top_at ax rfl (V:=1074) (T:=1024) (by omega) n.tx
 obtain ⟨B',hB',lB',B0'⟩:=top_at ay rfl (V:=1074) (T:=1024) (by omega) n.ty
 have y0:(absD Y).mag≠[]:=n.y0
 have aS:at_ (sqD X Y) (-(2*V:Int))=((A*A+B*B:Nat):Int):=by
  unfold sqD
  rw [at_addD (by omega) (by omega),show -(2*V:Int)= -(V:Int)+ -(V:Int) by omega,at_mulD (by omega) (by omega),at_mulD (by omega) (by omega),hA,hB]
  simp
 have eS:sqD X Y=form false (A'*A'+B'*B') (-(2148:Int)):=by
  unfold sqD
  rw [addD_at (u:= -(2148:Int)) (by omega) (by omega),show -(2148:Int)= -((1074:Nat):Int)+ -((1074:Nat):Int) by omega,at_mulD (by omega) (by omega),at_mulD (by omega) (by omega),hA',hB',form_sgn]
  congr 1
 have hS0:A'*A'+B'*B'≠0:=by
  have:=B0' y0
  have:=Nat.mul_pos (show 0<B' by omega) (show 0<B' by omega)
  omega
 have hbS:bl (A'*A'+B'*B')≤4200:=by
  obtain ⟨W,hW⟩:∃W:Nat,W=1074+1024:=⟨_,rfl⟩
  rw [←hW] at lA' lB'
  have key:bl (A'*A'+B'*B')≤2*W+1:=by
   refine bl_le.2 ?_
   have a:=Nat.mul_lt_mul_of_lt_of_lt lA' lA'
   have b:=Nat.mul_lt_mul_of_lt_of_lt lB' lB'
   rw [pow_sq] at a b
   have e:2^(2*W+1)=2*2^(2*W):=by rw [Nat.pow_succ,Nat.mul_comm]
   omega
  omega
 have ff:=(fit_form (s:=false) (n:=A'*A'+B'*B') (e:= -(2148:Int)) (L:=4200) (E:=3000) hbS (by decide) (by omega) (by decide) (by decide)).1
 refine ⟨A,B,hA,hB,aS,B0 y0,lA,lB,?_⟩
 rw [eS]
 exact ⟨ff.may,form_nn _ _,form_ne hS0 _,Nat.le_trans ff.bits (by decide),exp_form (by omega) (by omega),ff.hi⟩
theorem exact_facts {f m:Int} {X Y:Dyd} {h:Bool} (n:numOk f m X Y h) {T:Nat} (tx:topD X≤T) (ty:topD Y≤T) (hT:T≤1024) (hl:(rootF (sqD X Y) (4500:Nat)).2=false):
  Fit (rootF (sqD X Y) (4500:Nat)).1 4500 7000∧(∀s:Bool,∀Z:Dyd,Z=(if s then negD X else X)→mayD (shD (addD (rootF (sqD X Y) (4500:Nat)).1 Z) (-1))=true∧(shD (addD (rootF (sqD X Y) (4500:Nat)).1 Z) (-1)).neg=false∧
   (shD (addD (rootF (sqD X Y) (4500:Nat)).1 Z) (-1)).mag≠[]∧topD (shD (addD (rootF (sqD X Y) (4500:Nat)).1 Z) (-1))≤T+2):=by
 obtain ⟨V,hV⟩:∃V:Nat,V=6000:=⟨_,rfl⟩
 obtain ⟨N,hN⟩:∃N:Nat,N=4500:=⟨_,rfl⟩
 rw [←hN] at hl ⊢
 obtain ⟨A,B,hA,hB,aS,B0,lA,lB,mS,nS,zS,bS,eS,eS2⟩:=sq_facts n hV tx ty hT
 obtain ⟨ax,fax,fx, -, -⟩:=mul_may n.mx n.bx n.ex n.tx
 obtain ⟨L,u,⟨r1,r2⟩, -,l1, -, -,l4,l5,q,x1,q1,q2,q3,q4, -, -⟩:=root_span mS nS zS (V:=V) (n:=N) (by omega) (by omega) aS
 have hLL:L*L=A*A+B*B:=by
  refine Decidable.byContradiction fun c=> ?_
  have:=l5.2 c
  rw [hl] at this
  cases this
 have hLA:A<L:=by
  rcases Nat.lt_or_ge A L with c|c
  ·exact c
  ·have:=Nat.mul_le_mul c c
   have:=Nat.mul_pos (show 0<B by omega) (show 0<B by omega)
   omega
 have hLT:L<2^(V+T+1):=by
  rcases Nat.lt_or_ge L (2^(V+T+1)) with c|c
  ·exact c
  ·exfalso
   have c2:=Nat.mul_le_mul c c
   rw [Nat.pow_succ] at c2
   have a:=Nat.mul_lt_mul_of_lt_of_lt lA lA
   have b:=Nat.mul_lt_mul_of_lt_of_lt lB lB
   generalize 2^(V+T)=p at*
   have e:p*2*(p*2)=4*(p*p):=by rw [Nat.mul_mul_mul_comm,Nat.mul_comm]
   omega
 have hq0:q≠0:=fun c=>by rw [c,bl_zero] at q2;omega
 have hx1:x1+N≤T+1:=by
  have b1:2^(N-1)≤q:=lt_bl.1 (by omega)
  have b2:=Nat.mul_le_mul_right (2^(x1+V).toNat) b1
  rw [←q4,←Nat.pow_add] at b2
  have b4:=(Nat.pow_lt_pow_iff_right (a:=2) (by decide)).1 (Nat.lt_of_le_of_lt b2 hLT)
  omega
 have fr:Fit (rootF (sqD X Y) N).1 N 7000:=by
  rw [q1]
  exact (fit_form (by omega) (by omega) (by omega) (by omega) (by decide)).1
 refine ⟨fr,fun s Z hZ=> ?_⟩
 have ex: -1074≤X.exp:=n.ex
 have exZ:Z.exp=X.exp:=by rw [hZ];split<;>rfl
 have hXa:at_ X (-(V:Int))=A∨at_ X (-(V:Int))= -(A:Int):=by
  rw [←hA]
  unfold at_ Dyd.int absD
  simp only
  cases X.neg
  ·exact .inl rfl
  ·right
   simp only [if_true,Bool.false_eq_true,if_false]
   rw [Int.neg_mul]
 have hZa:at_ Z (-(V:Int))=A∨at_ Z (-(V:Int))= -(A:Int):=by
  rw [hZ]
  cases s
  ·exact hXa
  ·rw [if_pos rfl,at_negD]
   omega
 obtain ⟨w,hw⟩:∃w:Nat,(L:Int)+at_ Z (-(V:Int))=w:=⟨((L:Int)+at_ Z (-(V:Int))).toNat,by omega⟩
 have w0:w≠0:=by omega
 have hw2:w<2^(V+T+2):=by
  rw [Nat.pow_succ] at hLT ⊢
  rw [Nat.pow_succ]
  omega
 have hadd:addD (rootF (sqD X Y) N).1 Z=form false w (-(V:Int)):=by
  rw [addD_at (u:= -(V:Int)) (by omega) (by omega),r1,hw,form_sgn]
  rfl
 have hbw:=bl_le.2 hw2
 have hsh:shD (addD (rootF (sqD X Y) N).1 Z) (-1)=form false w (-(V:Int)-1):=by
  rw [hadd]
  unfold shD
  rw [if_neg (form_ne w0 _),form_pos w0,form_pos w0]
  simp only [Dyd.mk.injEq,true_and]
  omega
 rw [hsh]
 have ff:=(fit_form (s:=false) (n:=w) (e:= -(V:Int)-1) (L:=8000) (E:=8000) (by omega) (by omega) (by omega) (by decide) (by decide)).1
 exact ⟨ff.may,form_nn _ _,form_ne w0 _,by rw [top_form w0];omega⟩
end Go.Dy
