/- A store of terms in the abstract memory; conditions: none. -/
import Derived.Test.YtoaaclpjkelofaaGreatDoorAmM06
import Derived.Test.YtoaaclpjkelofaaGreatDoorAmM05
import Derived.Lib.ItoaLen
set_option linter.all false
namespace Go.Proofs.YtoaaclpjkelofaaGreatDoor.Am
open Go Go.Proofs
noncomputable section
open Tryz
structure Cn(E:Dw):Prop where
 P:E.P=prog
 nat:∀ (f:FuncId) (xs:List AV) (s:CO),f ∉ Hu→E.nat f xs s=none
 tab:∀ (f:FuncId) (xs:List AV) (s:CO) (p:AV×CO),Ig f xs s=some p→E.nat f xs s=some p
theorem Cn.go{E:Dw}(hE:Cn E){f:FuncId}{xs:List AV}{cf:Cr}{K:AV→CO→Prop}{s:CO}(hf:CY prog f=some cf)(hne:f ∉ Hu)(ha:xs.length=cf.na)(h:Qa E none cf.body (Ends prog cf.results K) (Ql xs cf.nv) [] s):WF E f xs K s:=
 WF.body' (hE.nat f xs s hne) (by rw[hE.P];exact hf) ha (by rw[hE.P];exact h)
theorem WF.native{E:Dw}{f:FuncId}{xs:List AV}{K:AV→CO→Prop}{s s':CO}{v:AV}(h:E.nat f xs s=some (v,s'))(k:K v s'):WF E f xs K s:=by
 refine⟨1,(v,s'),?_,k⟩
 show Ke E _ f xs s=_
 unfold Ke
 rw[h]
def FX(S:List Tm)(t:Tm)(m:Nat):List AV:=Em S t++t.cells++[iv (t.kids.length:Int),iv (t.sz:Int),.map (some m)]
theorem cells_len:∀a,a<13→(Jw.getD a ([],Tm.nullC)).2.length=7:=by decide
theorem Iy{t:Tm}(h:t.ok):t.cells.length=7:=by
 cases t<;>first | rfl | exact cells_len _ h
theorem JY{S:List Tm}{t:Tm}{m:Nat}(h:t.ok):(FX S t m).length=16:=by
 simp[FX,Em,Iy h]
def JG(S:List Tm):List Tm→List Nat→List AV
 | t::l,m::vm=>FX S t m++JG S l vm
 | _,_=>[]
theorem Ly{S:List Tm}{u:Tm}{m:Nat}:∀ (l:List Tm)(vm:List Nat),l.length=vm.length→(∀t∈l,∀k∈t.kids,k∈S)→(∀k∈u.kids,k∈S) →
  JG (S++[u]) (l++[u]) (vm++[m])=JG S l vm++FX S u m
 | [],[],_,_,hu=>by simp only[A8i,JG,FX,I3 [u] hu,List.append_nil,A8i]
 | t::l,n::vm,h,hl,hu=>by
  simp only[A8e,JG,A8n]
  rw[Ly l vm (by simpa using h) (fun x hx=>hl x (A8J _ hx)) hu]
  simp only[FX,I3 [u] (hl t A8M),A8n]
theorem Q8{S:List Tm}:∀ {l:List Tm}{vm:List Nat},vm.length=l.length→(∀t∈l,t.ok)→(JG S l vm).length=l.length * 16
 | [],[],_,_=>rfl
 | t::l,m::vm,h,ho=>by
  simp only[JG,A8X,A8P,JY (ho t A8M)]
  rw[Q8 (by simpa using h) (fun x hx=>ho x (A8J _ hx))]
  omega
theorem TU{S:List Tm}:∀ {l:List Tm}{vm:List Nat},vm.length=l.length→(∀t∈l,t.ok)→∀ {i:Nat}{t:Tm}{m:Nat},l[i]? = some t→vm[i]? = some m→∀j,j<16→(JG S l vm)[i * 16+j]? = (FX S t m)[j]?
 | [],[],_,_,i,t,m,h,_,_,_=>by simp at h
 | t::l,m::vm,hl,ho,i,t',m',h,k,j,hj=>by
  have hlen:=JY (S:=S) (m:=m) (ho t A8M)
  simp only[JG]
  cases i with
  | zero =>
   simp at h k
   subst h;subst k
   rw[A8d (by omega)]
   congr 1;omega
  | succ i =>
   rw[A8g (by omega),hlen,show(i+1) * 16+j - 16=i * 16+j from by omega]
   exact TU (by simpa using hl) (fun x hx=>ho x (A8J _ hx)) (by simpa using h) (by simpa using k) j hj
def QK(s:CO)(m:Nat)(t:Tm):Prop:=∃ks:List Int,s.heap.get m=some (.map 3 (EZ ks))∧ks.Nodup∧(∀x,x∈ks↔t.has x=true)∧ks.length≤100000
structure Js(s:CO)(p:Nat)(S:List Tm)(O:List Nat)(tv:AV)(fi:Nat)(vm OT:List Nat):Prop where
 obj:s.heap.get p=some (R 100 0 false [tv,.map (some fi)])
 buf:HD 71 16 s tv S.length (JG S S vm) OT
 fnd:s.heap.get fi=some (.map 53 (Ga S))
 vml:vm.length=S.length
 vars:∀ (i:Nat) (t:Tm) (m:Nat),S[i]? = some t→vm[i]? = some m→QK s m t∧m<s.next∧m ∉ p::fi::OT
 eq:O=p::fi::(OT++vm)
 plt:p<s.next
 flt:fi<s.next
 pf:p≠fi
 pO:p ∉ OT
 fO:fi ∉ OT
structure DD(s:CO)(p:Nat)(S:List Tm)(O:List Nat):Prop where
 ok:QI S
 small:S.length≤100000
 ex:∃tv fi vm OT,Js s p S O tv fi vm OT
def Eb(O:List Nat)(s s':CO):Prop:=s.next≤s'.next∧∀j,j<s.next→j ∉ O→s'.heap.get j=s.heap.get j
theorem Eb.refl(O:List Nat)(s:CO):Eb O s s:=⟨A8H _,fun _ _ _=>rfl⟩
def DR(O O':List Nat)(s:CO):Prop:=∀j∈O',j∈O∨s.next≤j
theorem DR.refl(O:List Nat)(s:CO):DR O O s:=fun _ h=>.inl h
theorem Eb.trans{O O':List Nat}{s s1 s2:CO}(h:Eb O s s1)(k:Eb O' s1 s2)(hO:DR O O' s):Eb O s s2:=
 ⟨A8Z h.1 k.1,fun j hj hn=>(k.2 j (A8L hj h.1) (fun hm=>(hO j hm).elim hn (fun hl=>by omega))).trans (h.2 j hj hn)⟩
theorem DR.trans{O O1 O2:List Nat}{s s1:CO}(h:DR O O1 s)(k:DR O1 O2 s1)(hn:s.next≤s1.next):DR O O2 s:=fun j hj =>
 (k j hj).elim (h j) (fun hl=>.inr (A8Z hn hl))
theorem QK.frame{s s':CO}{m:Nat}{t:Tm}(h:QK s m t)(e:s'.heap.get m=s.heap.get m):QK s' m t:=by
 obtain⟨ks,h1,h2⟩:=h
 exact⟨ks,by rw[e];exact h1,h2⟩
theorem Js.lt{s:CO}{p:Nat}{S:List Tm}{O:List Nat}{tv:AV}{fi:Nat}{vm OT:List Nat}(h:Js s p S O tv fi vm OT):∀j∈O,j<s.next:=by
  intro j hj
  rw[h.eq]at hj
  rcases A8I.1 hj with rfl | hj
  · exact h.plt
  · rcases A8I.1           hj with rfl | hj
    · exact h.flt
    · rcases A8q.1             hj with hj | hj
      · exact h.buf.lt j hj
      · obtain⟨i,hi,he⟩:=List.mem_iff_getElem.1 hj
        have hiS:i<S.length:=by rw[← h.vml];exact hi
        exact(h.vars i S[i] j (A8O hiS) (by rw[← he];exact A8O hi)).2.1
theorem DD.lt{s:CO}{p:Nat}{S:List Tm}{O:List Nat}(h:DD s p S O):∀j∈O,j<s.next:=let ⟨_,_,_,_,h⟩:=h.ex;h.lt
theorem DD.frame{s s':CO}{p:Nat}{S:List Tm}{O:List Nat}(h:DD s p S O)(hn:s.next≤s'.next)(k:∀j∈O,s'.heap.get j=s.heap.get j):DD s' p S O:=by
 obtain⟨tv,fi,vm,OT,e⟩:=h.ex
 have hp:p∈O:=by rw[e.eq];simp
 have hf:fi∈O:=by rw[e.eq];simp
 have hT:∀j∈OT,j∈O:=fun j hj=>by rw[e.eq];simp[hj]
 have hv:∀j∈vm,j∈O:=fun j hj=>by rw[e.eq];simp[hj]
 refine⟨h.ok,h.small,tv,fi,vm,OT,?_,?_,?_,e.vml,?_,e.eq,A8L e.plt hn,A8L e.flt hn,e.pf,e.pO,e.fO⟩
 ·rw[k p hp];exact e.obj
 ·exact e.buf.frame hn fun j hj=>k j (hT j hj)
 ·rw[k fi hf];exact e.fnd
 ·intro i t m hi hm
  obtain⟨k1,k2,k3⟩:=e.vars i t m hi hm
  exact⟨k1.frame (k m (hv m (A8a hm))),A8L k2 hn,k3⟩
theorem DD.old{s s':CO}{p:Nat}{S:List Tm}{O:List Nat}(h:DD s p S O)(k:DL s.next s s'):DD s' p S O:=
 h.frame k.1 fun j hj=>k.2 j (h.lt j hj)
section
variable{s:CO}{p:Nat}{S:List Tm}{O:List Nat}{tv:AV}{fi:Nat}{vm OT:List Nat}
theorem Js.entry(h:Js s p S O tv fi vm OT)(hs:QI S){i:Nat}{t:Tm}(hi:S[i]? = some t):
    ∃m j r,vm[i]? = some m∧tv=.slice (some (j,0)) S.length none∧j∈O∧s.heap.get j=some (.row r)∧EV (some (.row r)) (i * 16) 16=some (FX S t m)∧∀k,k<16→DY (some (.row r)) (i * 16+k)=(FX S t m)[k]? := by
  have hil:i<S.length:=by
    rcases A8N i S.length with h' | h'
    · exact h'
    · rw[A8W h']at hi;cases hi
  have him:i<vm.length:=by rw[h.vml];exact hil
  have hm:vm[i]? = some vm[i]:=A8O (by rw[h.vml];exact hil)
  have hlen:=Q8 (S:=S) h.vml hs.ok
  have hat:=TU (S:=S) h.vml hs.ok hi hm
  have hel:=JY (S:=S) (m:=vm[i]) (hs.ok t (A8a hi))
  rcases h.buf.row with⟨_,h0,_⟩ | ⟨j,r,h1,h2,h3,h4⟩
  · omega
  · refine ⟨vm[i], j, r, hm, h1, by rw [h.eq]; simp [h2], h3, ?_, fun k hk => ?_⟩
    · rw[H6 h4 (by rw[hlen];omega)]
      congr 1
      apply List.ext_getElem?
      intro k
      by_cases hk:k<16
      · rw[A9P hk,A8y]
        exact hat k hk
      · rw[A8W (by simp;omega),A8W (by omega)]
    · have hk2:(FX S t vm[i])[k]? = some (FX S t vm[i])[k]:=A8O (by omega)
      rw[hk2]
      exact nj h4 (by rw[hat k hk];exact hk2)
theorem R5{α:Type}:∀ {l m:List α},l.Nodup→(∀x∈l,x∈m)→l.length≤m.length
 | [],_,_,_=>A8T _
 | a::l,m,hn,h=>by
  obtain⟨m1,m2,rfl⟩:=List.append_of_mem (h a A8M)
  simp only[A8x]at hn
  have:=R5 (m:=m1++m2) hn.2 fun x hx=>by
   have:=h x (A8J _ hx)
   simp only[A8q,A8I]at this ⊢
   rcases this with h' | h' | h'
   ·exact .inl h'
   ·subst h';exact absurd hx hn.1
   ·exact .inr h'
  simp at this ⊢;omega
theorem LZ{S:List Tm}(hs:QI S){x:Int}:∀ (t:Tm),t∈S→t.has x=true→Tm.var x∈S
 | .var i,ht,h=>by simp[Tm.has]at h;subst h;exact ht
 | .bnd _,_,h=>by cases h
 | .con _,_,h=>by cases h
 | .sel d k,ht,h=>by
  simp only[Tm.has,A9X]at h
  rcases h with h | h
  ·exact LZ hs d (hs.kid ht (by simp[Tm.kids])).1 h
  ·exact LZ hs k (hs.kid ht (by simp[Tm.kids])).1 h
 | .upd d k a,ht,h=>by
  simp only[Tm.has,A9X]at h
  rcases h with(h | h) | h
  ·exact LZ hs d (hs.kid ht (by simp[Tm.kids])).1 h
  ·exact LZ hs k (hs.kid ht (by simp[Tm.kids])).1 h
  ·exact LZ hs a (hs.kid ht (by simp[Tm.kids])).1 h
theorem qN{S:List Tm}(hs:QI S){t:Tm}(ht:t∈S){ks:List Int}(hn:ks.Nodup)(hk:∀x∈ks,t.has x=true):ks.length≤S.length:=by
 have hsub:∀u∈ks.map Tm.var,u∈S:=fun u hu=>by
  obtain⟨x,hx,rfl⟩:=List.mem_map.1 hu
  exact LZ hs t ht (hk x hx)
 have hnd:(ks.map Tm.var).Nodup:=by
  rw[List.Nodup,List.pairwise_map]
  exact hn.imp fun h e=>h (by injection e)
 have:=R5 hnd hsub
 simpa using this
end
end
end Go.Proofs.YtoaaclpjkelofaaGreatDoor.Am
set_option linter.all false
set_option maxHeartbeats 1000000
namespace Go.Proofs.YtoaaclpjkelofaaGreatDoor.Am
open Go Go.Proofs
noncomputable section
open Tryz
def push(S:List Tm)(u:Tm):List Tm:=if u∈S then S else S++[u]
def LL(S:List Tm)(l:List Tm):List AV:=l.map fun t=>iv (ix S t:Int)
def Fc(s:CO)(S:List Tm)(l:List Tm)(v:AV):Prop:=
 (l=[]∧v=.slice none 0 (some 0))∨∃j q cap,v=.slice (some (j,q)) l.length cap∧0<l.length∧j<s.next∧EV (s.heap.get j) q l.length=some (LL S l)
theorem aB{o:Option Cg}{q:Nat}{S l:List Tm}(h:EV o q l.length=some (LL S l)){k:Nat}{t:Tm}(hk:l[k]? = some t):DY o (q+k)=some (iv (ix S t:Int)):=by
 have hlt:k<l.length:=by
  rcases A8N k l.length with h' | h'
  ·exact h'
  ·rw[A8W h']at hk;cases hk
 rw[Xk h hlt,LL,A8j,hk];rfl
theorem tw(s:CO)(i o:Nat):DK prog 51 false false false s [.ptr (some (i,o))]=some (.slice (some (i,o)) 3 (some 3)):=by
 have:DK prog 51 false false false s [.ptr (some (i,o))]=some (.slice (some (i,o+0 * 1)) 3 (some 3)):=by kernel_rfl
 exact this
theorem Zd{s:CO}{i o:Nat}{S l:List Tm}{v:AV}(hn:l.length≤3)(h:Fc s S l v):
  Kx prog s [30,30] [.slice (some (i,o)) 3 (some 3),v]=(EC s i o (LL S l)).bind fun s'=>some (iv (l.length:Int),s'):=by
 rcases h with⟨rfl,rfl⟩ | ⟨j,q,cap,rfl,h0,_,h⟩
 ·simp only[Kx,underlying30,HC,Option.bind_some]
  rfl
 ·have hb:Nat.ble l.length 3=true:=EA hn
  simp only[Kx,underlying30,HC,Option.bind_some,hb,cond_true,A8S,Et,h]
  rfl
theorem gM{s:CO}{S l:List Tm}{v:AV}(h:Fc s S l v)(s':CO):D9 prog s' 30 v=some (iv (l.length:Int)):=by
 rcases h with⟨rfl,rfl⟩ | ⟨j,q,cap,rfl,_⟩<;>exact DQ underlying30
theorem J9(u:Tm):u.kids.length≤3:=by cases u<;>simp[Tm.kids]
theorem oF{s:CO}{S:List Tm}{u:Tm}{b:Nat}(hb:s.next=b):
  EC (ext s [R 53 0 false [iv u.kind,iv u.id,iv 0,iv 0,iv 0,.str u.ktext],R 34 0 false u.cells]) (nid b 0) 2 (LL S u.kids)=some (ext s [R 53 0 false (Em S u),R 34 0 false u.cells]):=by
 cases u<;>simp[Tm.kids,LL,Em,part,hb,Wg,Nat.reduceAdd,Nat.reduceLT,Nat.reduceLeDiff]
end
end Go.Proofs.YtoaaclpjkelofaaGreatDoor.Am
set_option linter.all false
namespace Go.Proofs.YtoaaclpjkelofaaGreatDoor.Am
open Go Go.Proofs
noncomputable section
open Tryz
set_option maxRecDepth 100000 in
theorem tq(a b c d e:Int)(l:List Nat):E3 prog 53 (.agg [iv a,iv b,iv c,iv d,iv e,.str l]) =
  (D7 .i64 a && (D7 .i64 b && ((D7 .i64 c && (D7 .i64 d && (D7 .i64 e && true))) && (Nat.ble l.length 1099511627776 && true)))):=by kernel_rfl
theorem r6:∀a,a<13→(Jw.getD a ([],[])).1.length<200:=by decide
theorem py{S:List Tm}{u:Tm}(hS:S.length<100000)(hk:∀k∈u.kids,k∈S)(ho:u.ok):E3 prog 53 (.agg (Em S u))=true:=by
 have hp:∀k,i64 (part S u k):=fun k=>by
  unfold part
  cases e:u.kids[k]? with
  | none=>show i64 0;unfold i64;omega
  | some x=>have:=NR (hk x (A8a e));show i64 (ix S x:Int);unfold i64;omega
 have h1:i64 u.kind:=by cases u<;>(simp only[Tm.kind,i64];omega)
 have h2:i64 u.id:=by
  cases u with
  | var i=>exact ho
  | bnd i=>exact ho.2
  | con n=>show i64 0;unfold i64;omega
  | sel d k=>show i64 0;unfold i64;omega
  | upd d k a=>show i64 0;unfold i64;omega
 have h3:u.ktext.length≤1099511627776:=by
  cases u with
  | con n=>have:=r6 n ho;show(Jw.getD n ([],[])).1.length≤_;omega
  | var i=>exact A8T _
  | bnd i=>exact A8T _
  | sel d k=>exact A8T _
  | upd d k a=>exact A8T _
 unfold Em
 rw[tq,Do h1,Do h2,Do (hp 0),Do (hp 1),Do (hp 2),EA h3]
 rfl
theorem Vm{s:CO}{fi:Nat}{S:List Tm}{u:Tm}(hf:s.heap.get fi=some (.map 53 (Ga S)))(hs:QI S)(hS:S.length<100000)(hk:∀k∈u.kids,k∈S)(ho:u.ok):
  Dy prog s 97 (.map (some fi)) (.agg (Em S u)) true=some (.tuple [if u∈S then iv (ix S u:Int)else iv 0,.bool (decide (u∈S))]):=by
 have hrd:Gw s 53 fi=some (Ga S):=by unfold Gw;rw[hf];simp[CU]
 unfold Dy
 simp only[underlying97,py hS hk ho,EB,hrd,Option.bind_some,RL hs hk ho]
 by_cases hm:u∈S<;>simp[hm,A6B]
theorem WL{s:CO}{fi:Nat}{S:List Tm}{u:Tm}(hf:s.heap.get fi=some (.map 53 (Ga S)))(hs:QI S)(hS:S.length<100000)(hk:∀k∈u.kids,k∈S)(ho:u.ok)(hu:u ∉ S):
  EF prog s 97 (.map (some fi)) (.agg (Em S u)) (iv (S.length:Int))=some (setObj s fi (.map 53 (Ga (S++[u])))):=by
 unfold EF
 simp only[underlying97,py hS hk ho,EB,I4,hf,Hk,Option.bind_some,Pp,RL hs hk ho,if_neg hu]
 rw[RP hs hu hk]
end
end Go.Proofs.YtoaaclpjkelofaaGreatDoor.Am
set_option linter.all false
set_option maxHeartbeats 1000000
namespace Go.Proofs.YtoaaclpjkelofaaGreatDoor.Am
open Go Go.Proofs
noncomputable section
open Tryz
theorem gE(xs:List AV)(s:CO):Ig 53 xs s=Jx 3 s xs:=by
 have e:Ig 53 xs s=(match Jx 3 s xs with | some p=>some p | none=>none):=by
  show(match (match Jx 3 s xs with | some p=>some p | none=>none)with | some p=>some p | none=>none)=_
  cases Jx 3 s xs<;>rfl
 rw[e]
 cases Jx 3 s xs<;>rfl
theorem fC{E:Dw}(hE:Cn E){s:CO}{i j:Nat}{es fs es':List (AV×AV)}{K:AV→CO→Prop}(hij:i≠j)(h1:s.heap.get i=some (.map 3 es))(h2:s.heap.get j=some (.map 3 fs))(hl:es.length+fs.length≤1000000)(hp:Om fs es=some es')
  (k:K (.tuple []) (setObj s i (.map 3 es'))):WF E 53 [.map (some i),.map (some j)] K s:=by
 refine WF.native (hE.tab _ _ _ (.tuple [],setObj s i (.map 3 es')) ?_) k
 rw[gE]
 have hb:Nat.beq i j=false:=CT.beq_no hij
 simp only[Jx,hb,Bool.not_false,EB,I4,h1,h2,Hk,Option.bind_some,EA hl,hp]
theorem gA(a:Int):LF false (iv a) [iv 4097]=some (iv (min a 4097)):=by
 show CU true (some (iv (bif WQ 4097 a then 4097 else a)))=_
 rw[Hq]
 show some (iv _)=_
 by_cases h:(4097:Int)<a
 ·simp only[h,A9Z,cond_true];rw[Int.min_eq_right (by omega)]
 ·simp only[h,A9a,cond_false];rw[Int.min_eq_left (by omega)]
theorem Fc.at{s:CO}{S l:List Tm}{v:AV}(h:Fc s S l v){k:Nat}{t:Tm}(hk:l[k]? = some t):∃j q cap,v=.slice (some (j,q)) l.length cap∧j<s.next∧DY (s.heap.get j) (q+k)=some (iv (ix S t:Int)):=by
 rcases h with⟨rfl,rfl⟩ | ⟨j,q,cap,rfl,h0,h1,h2⟩
 ·simp at hk
 ·exact⟨j,q,cap,rfl,h1,aB h2 hk⟩
def A6f(z:Nat):List Tm→Nat
 | []=>z
 | t::l=>A6f (min (z+t.sz) 4097) l
theorem qE(u:Tm):A6f 1 u.kids=u.sz:=by cases u<;>rfl
section
variable{E:Dw}(hE:Cn E){s:CO}{p:Nat}{S:List Tm}{O:List Nat}{tv:AV}{fi:Nat}{vm OT:List Nat}(e:Js s p S O tv fi vm OT)(hS:QI S){pv:AV}{us:List Tm}(hp:Fc s S us pv)(h3:us.length≤3)(hin:∀t∈us,t∈S)
  (a1 a2 a4 a5 a6 a7 a8 a11 a12 k0 k1 k2 k3 k4 k5 c0 c1 c2 c3 c4 c5 c6:AV) (kb vb:Cg) {b:Nat} (hs:s.next=b)
include hE e hS hp h3 hin hs
theorem pY{Q:Da→Prop}{marks:List Nat}:∀ (l2 l1:List Tm)(ks:List Int)(z:Nat)(a10 a16:AV),us=l1++l2→ks.Nodup→ks.length≤100000+l1.length * 100000→z≤4097 →
    (∀ (ks':List Int) (b10 b15 b16:AV),ks'.Nodup→(∀x,x∈ks'↔x∈ks∨∃t∈l2,t.has x=true) →
      Cs 0 Q ⟨.exit 0,[.ptr (some (p,0)),a1,a2,pv,a4,a5,a6,a7,a8,.ptr (some (nid b 3,0)),b10,a11,a12,pv,iv (us.length:Int),b15,b16],marks,ext s [kb,vb,.map 3 (EZ ks'),R 71 0 false [k0,k1,k2,k3,k4,k5,c0,c1,c2,c3,c4,c5,c6,iv (us.length:Int),iv (A6f z l2:Int),.map (some (nid b 2))]]⟩) →
    WC E none OL.loop (Cs 0 Q) [.ptr (some (p,0)),a1,a2,pv,a4,a5,a6,a7,a8,.ptr (some (nid b 3,0)),a10,a11,a12,pv,iv (us.length:Int),iv (l1.length:Int),a16] marks
      (ext s [kb,vb,.map 3 (EZ ks),R 71 0 false [k0,k1,k2,k3,k4,k5,c0,c1,c2,c3,c4,c5,c6,iv (us.length:Int),iv (z:Int),.map (some (nid b 2))]]):=by
  intro l2
  induction l2 with
  | nil =>
    intro l1 ks z a10 a16 hus hn hl hz hq
    refine WC.loop' ?_
    have hlt:¬ ((l1.length:Int)<(us.length:Int)):=by rw[hus];simp
    simp only[OL,lC,hlt,A9a,Qa,Qb,QS]
    exact hq ks _ _ _ hn (fun x=>by simp)
  | cons t l2 ih =>
    intro l1 ks z a10 a16 hus hn hl hz hq
    refine WC.loop' ?_
    obtain⟨L,hL⟩:∃L,L=Ck.loop OL:=⟨_,rfl⟩
    rw[← hL]
    have hlt:((l1.length:Int)<(us.length:Int)):=by rw[hus];simp;omega
    have hat:us[l1.length]? = some t:=by rw[hus];simp
    obtain⟨j,q,cap,rfl,hj,hpl⟩:=hp.at hat
    have htS:t∈S:=hin t (A8a hat)
    obtain⟨m,jr,r,hvm,rfl,hjO,hjr,_,hle⟩:=e.entry hS (JL htS)
    have hls:=hle 14 (by omega)
    have hlv:=hle 15 (by omega)
    rw[← hjr]at hls hlv
    have hc7:=Iy (hS.ok t htS)
    have es:(FX S t m)[14]? = some (iv (t.sz:Int)):=by simp[FX,Em,hc7]
    have ev:(FX S t m)[15]? = some (.map (some m)):=by simp[FX,Em,hc7]
    rw[es]at hls
    rw[ev]at hlv
    obtain⟨⟨mk,hm1,hm2,hm3,hm4⟩,hmb,hmO⟩:=e.vars _ _ _ (JL htS) hvm
    have hpb:=e.plt
    have hobj:=e.obj
    have hjrb:=e.lt jr hjO
    rw[hs]at hj hjrb hmb hpb
    have hzz:=t.sz_pos
    have hix:=NR htS
    have hadd:i64 ((z:Int)+(t.sz:Int)):=by unfold i64;omega
    have hadd1:i64 ((l1.length:Int)+1):=by unfold i64;omega
    have hl3:l1.length<us.length:=by omega
    simp only[OL,lC,kq,kr,hlt,A9Z,Qa,Qb,QS,Cj underlying30 HC hl3,Cj underlying98 TD hix,Ee,iY,HC,Zr,NH,hj,hjrb,hpb,hpl,hobj,hls,hs,A8S,Db _ _ _ _ hadd,gA,Wg,Nat.reduceAdd,Nat.reduceLeDiff]
    have hmn:nid b 2≠m:=by rw[CN];omega
    simp only[ku,Qb,QS,Cj underlying98 TD hix,A4D,iY,nL,NH,hjrb,hpb,hobj,hlv,hs,Wg,Nat.reduceAdd]
    refine fC hE hmn (by rw[CR hs (by simp)];rfl) (by rw[Cm (by rw[hs];exact hmb)];exact hm1) ?_ (Pa mk ks) ?_
    · simp only[EZ,A8c];omega
    have hzc:min ((z:Int)+(t.sz:Int)) 4097=((min (z+t.sz) 4097:Nat):Int):=by omega
    simp only[kz,Qb,QS,Db _ _ _ _ hadd1,hs,hzc,Wg,Nat.reduceAdd,Nat.reduceLT]
    have hlen:(l1++[t]).length=l1.length+1:=by simp
    have:=ih (l1++[t]) (mk.foldl FO ks) (min (z+t.sz) 4097) (iv (ix S t:Int)) (.bool true) (by rw[hus];simp) (PI mk hn) ?_ (by omega) ?_
    · rw [hlen] at this
      rw[hL]
      exact this
    · have:=NW mk ks
      rw[hlen];omega
    · intro ks' b10 b15 b16 hn' hx
      refine hq ks' b10 b15 b16 hn' fun x=>?_
      rw[hx,UC,hm3]
      constructor
      · rintro ((h | h) | ⟨u, h1, h2⟩)
        · exact .inl h
        · exact .inr ⟨t,A8M,h⟩
        · exact .inr ⟨u,A8J _ h1,h2⟩
      · rintro (h | ⟨u, h1, h2⟩)
        · exact .inl (.inl h)
        · rcases A8I.1           h1 with rfl | h1
          · exact .inl (.inr h2)
          · exact .inr ⟨u,h1,h2⟩
end
set_option maxRecDepth 100000 in
theorem ip(k0 k1 k2 k3 k4 k5 c0 c1 c2 c3 c4 c5 c6:AV)(n z:Int)(m:Nat):C8 prog 71 (zipIdx [0,1,2,3,4] [.agg [k0,k1,k2,k3,k4,k5],.agg [c0,c1,c2,c3,c4,c5,c6],iv n,iv z,.map (some m)]) =
  some (.agg [k0,k1,k2,k3,k4,k5,c0,c1,c2,c3,c4,c5,c6,iv n,iv z,.map (some m)]):=by kernel_rfl
theorem gU(k0 k1 k2 k3 k4 k5 c0 c1 c2 c3 c4 c5 c6 n z m:AV):Cd prog 98 1 (zipIdx [0] [.agg [k0,k1,k2,k3,k4,k5,c0,c1,c2,c3,c4,c5,c6,n,z,m]]) =
  some (R 71 16 false [k0,k1,k2,k3,k4,k5,c0,c1,c2,c3,c4,c5,c6,n,z,m]):=by kernel_rfl
theorem tA:D8 prog 69=some 3:=by kernel_rfl
theorem qT:FU prog 71 16=true:=by kernel_rfl
theorem eU:∀a,a<13→C3 (Jw.getD a ([],Tm.nullC)).2=true:=by decide
theorem Tm.cells7{t:Tm}(h:t.ok):∃c0 c1 c2 c3 c4 c5 c6,t.cells=[c0,c1,c2,c3,c4,c5,c6]∧c0.isCell=true∧c1.isCell=true∧c2.isCell=true∧c3.isCell=true∧c4.isCell=true∧c5.isCell=true∧c6.isCell=true:=by
 have h7:=Iy h
 have ha:C3 t.cells=true:=by
  cases t<;>first | rfl | exact eU _ h
 match hc:t.cells,h7,ha with
 | [c0,c1,c2,c3,c4,c5,c6],_,ha =>
  simp only[C3,A9W,A9T]at ha
  exact⟨_,_,_,_,_,_,_,rfl,ha⟩
section
variable{E:Dw}{s:CO}{p:Nat}{S:List Tm}{O:List Nat}{tv:AV}{fi:Nat}{vm OT:List Nat}(e:Js s p S O tv fi vm OT)(hS:QI S)(hsm:S.length<100000)
  {u:Tm} (hk:∀k∈u.kids,k∈S) (ho:u.ok) (hu:u ∉ S) (a1 a2 pv a5 a6 a7 a8 a10 a11 a12 a13 a14 a15 a16:AV) (vb:Cg) {b:Nat} (hs:s.next=b) {ks:List Int} (hkn:ks.Nodup) (hkx:∀x,x∈ks↔u.has x=true)
include e hS hsm hk ho hu hs hkn hkx
theorem tY{K:AV→CO→Prop}(hK:∀s' O',DD s' p (S++[u]) O'→Eb O s s'→DR O O' s→K (iv (S.length:Int)) s'):
    Qb E U1 (fun v s'=>Qb E U2 (fun v s'=>Qb E U3 (fun v s'=>Jj (EL s' []) fun s'=>K (Hw v 6) s') [] v s') [] v s') []
      [.ptr (some (p,0)),a1,a2,pv,.ptr (some (nid b 0,0)),a5,a6,a7,a8,.ptr (some (nid b 3,0)),a10,a11,a12,a13,a14,a15,a16]
      (ext s [R 53 0 false (Em S u),vb,.map 3 (EZ ks),R 71 0 false (FX S u (nid b 2))]):=by
  obtain⟨c0,c1,c2,c3,c4,c5,c6,hc,d0,d1,d2,d3,d4,d5,d6⟩:=u.cells7 ho
  have hpb:=e.plt
  have hfb:=e.flt
  have hobj:=e.obj
  rw[hs]at hpb hfb
  have hbuf:=e.buf.frame (s':=ext s [R 53 0 false (Em S u),vb,.map 3 (EZ ks),R 71 0 false (FX S u (nid b 2)),R 71 16 false (FX S u (nid b 2))]) (by rw[Ce,CN];omega) (fun j hj=>Cm (e.buf.lt j hj))
  have hsrc:FT prog (ext s [R 53 0 false (Em S u),vb,.map 3 (EZ ks),R 71 0 false (FX S u (nid b 2)),R 71 16 false (FX S u (nid b 2))]) 71 16 (.slice (some (nid b 4,0)) 1 (some 1))=some (1,FX S u (nid b 2)):=by
    show(Pr _ (nid b 4) 0 1 16).bind _=_
    rw[Jo (l:=FX S u (nid b 2)) (by rw[Et,CR hs (by simp)];show EV (some (R 71 16 false (FX S u (nid b 2)))) _ _=_;rw[D3 (by rw[JY ho];exact A8H _),A8p,A8m (by rw[JY ho];exact A8H _)])]
    rfl
  have hac:C3 (FX S u (nid b 2))=true:=by
    simp only[FX,Em,hc,A8e,A8i,C3,d0,d1,d2,d3,d4,d5,d6,MY,MZ,RX,Bool.and_self]
  obtain⟨v',s2,O2,happ,hb2,hn2,hf2,hO2,hsl⟩:=hbuf.append (xt:=98) underlying98 TD A6K (by omega) (by kernel_rfl) qT (by omega) hsrc (by rw[JY ho]) hac (by omega) (by omega)
  have hv2:∃a c,v'=.slice a (S.length+1) c:=let ⟨a,c,h,_⟩:=hb2.slice;⟨a,c,h⟩
  obtain⟨av,cv,rfl⟩:=hv2
  have hnx:(ext s [R 53 0 false (Em S u),vb,.map 3 (EZ ks),R 71 0 false (FX S u (nid b 2)),R 71 16 false (FX S u (nid b 2))]).next=b+5:=by rw[Ce,CN,hs];rfl
  rw[hnx]at hn2 hf2 hO2 hsl
  have hOT:∀j∈OT,j<b:=fun j hj=>by have:=e.buf.lt j hj;omega
  have g0:s2.heap.get (nid b 0)=some (R 53 0 false (Em S u)):=by
    rw[hf2 _ (by rw[CN];omega) (fun h=>by have:=hOT _ h;rw[CN]at this;omega),CR hs (by simp)];rfl
  have g2:s2.heap.get (nid b 2)=some (.map 3 (EZ ks)):=by
    rw[hf2 _ (by rw[CN];omega) (fun h=>by have:=hOT _ h;rw[CN]at this;omega),CR hs (by simp)];rfl
  have gold:∀j,j<b→j ∉ OT→s2.heap.get j=s.heap.get j:=fun j h1 h2=>by
    rw[hf2 j (by omega) h2,Cm (by omega)]
  have gp:s2.heap.get p=some (R 100 0 false [tv,.map (some fi)]):=by rw[gold p hpb e.pO];exact hobj
  have gf:s2.heap.get fi=some (.map 53 (Ga S)):=by rw[gold fi hfb e.fO];exact e.fnd
  have hu2:FX S u (nid b 2)=[iv u.kind,iv u.id,iv (part S u 0),iv (part S u 1),iv (part S u 2),.str u.ktext,c0,c1,c2,c3,c4,c5,c6,iv (u.kids.length:Int),iv (u.sz:Int),.map (some (nid b 2))]:=by
    simp only[FX,Em,hc,A8e,A8i]
  rw[hu2]at happ ⊢
  have hfp:fi≠p:=Ne.symm e.pf
  have hp0:nid b 0≠p:=by rw[CN];omega
  have hup:=WL (s:=setObj s2 p (R 100 0 false [.slice av (S.length+1) cv,.map (some fi)])) (fi:=fi) (u:=u) (by rw[CS _ hfp];exact gf) hS hsm hk ho hu
  have hsub:i64 (((S.length+1:Nat):Int) - 1):=by unfold i64;omega
  have hsub2:((S.length+1:Nat):Int) - 1=(S.length:Int):=by omega
  have g0:s2.heap.get (nid b 0)=some (R 53 0 false [iv u.kind,iv u.id,iv (part S u 0),iv (part S u 1),iv (part S u 2),.str u.ktext]):=g0
  simp only[Em]at hup happ
  simp only[Em,U1,U2,U3,Qb,QS,NH,dK,hpb,hobj,hs,iY,A4G,A0y,A3Z,A6e,A4E,TD,gU,happ,gp,hp0,g0,DQ underlying98,Pt _ _ _ _ hsub,hsub2,hup,Ne.symm hfp,ne_eq,not_false_eq_true,Wg,Nat.reduceAdd,Nat.reduceLeDiff]
  have hok:=hS.push hu hk ho
  have hlen:(S++[u]).length=S.length+1:=by simp
  have hin:∀j,j∈O↔j=p∨j=fi∨j∈OT∨j∈vm:=fun j=>by rw[e.eq];simp
  have hpO2:p ∉ O2:=fun h=>(hO2 p h).elim e.pO (fun h=>by omega)
  have hfO2:fi ∉ O2:=fun h=>(hO2 fi h).elim e.fO (fun h=>by omega)
  have hget:∀j,j≠p→j≠fi→(setObj (setObj s2 p (R 100 0 false [.slice av (S.length+1) cv,.map (some fi)])) fi (.map 53 (Ga (S++[u])))).heap.get j=s2.heap.get j:=fun j h1 h2=>by
    rw[CS _ h2,CS _ h1]
  refine hK _ (p::fi::(O2++(vm++[nid b 2]))) ⟨hok,by omega,.slice av (S.length+1) cv,fi,vm++[nid b 2],O2,?_,?_,Co _ _ _,by rw[A8X,e.vml,hlen];rfl,?_,rfl,?_,?_,e.pf,hpO2,hfO2⟩ ⟨?_,?_⟩ ?_
  · rw[CS _ (Ne.symm hfp),Co]
  · rw [hlen, Ly            S vm e.vml.symm (fun t ht k hkk => (hS.kid ht hkk).1) hk]
    refine hb2.frame (A8H _) fun j hj=>hget j (fun h=>hpO2 (h▸hj)) (fun h=>hfO2 (h▸hj))
  · intro i t m hi hm
    have hnx2:(setObj (setObj s2 p (R 100 0 false [.slice av (S.length+1) cv,.map (some fi)])) fi (.map 53 (Ga (S++[u])))).next=b+6:=by rw[Cp,Cp,hn2]
    rw[hnx2]
    rcases A8N i S.length with hl | hl
    · rw [A8d                       hl] at hi
      rw[A8d (by rw[e.vml];exact hl)]at hm
      obtain⟨h1,h2,h3⟩:=e.vars i t m hi hm
      have hmp:m≠p:=fun h=>h3 (by simp[h])
      have hmf:m≠fi:=fun h=>h3 (by simp[h])
      have hmT:m ∉ OT:=fun h=>h3 (by simp[h])
      refine⟨h1.frame (by rw[hget m hmp hmf,gold m (by omega) hmT]),by omega,fun h=>?_⟩
      rcases A8I.1 h with h | h
      · exact hmp h
      · rcases A8I.1           h with h | h
        · exact hmf h
        · rcases hO2 m h with h | h
          · exact hmT h
          · omega
    · have hi2:i<(S++[u]).length:=by
        rcases A8N i (S++[u]).length with h' | h'
        · exact h'
        · rw[A8W h']at hi;cases hi
      have hi3:i=S.length:=by omega
      subst hi3
      have ht:t=u:=by simpa using hi.symm
      rw[A8g (by rw[e.vml];exact A8H _),e.vml,Nat.sub_self]at hm
      have hm:m=nid b 2:=by simpa using hm.symm
      subst ht;subst hm
      have hlt2:nid b 2<b+6∧b≤nid b 2∧nid b 2<b+5:=by rw[CN];omega
      refine⟨⟨ks,by rw[hget _ (by omega) (by omega)];exact g2,hkn,hkx,?_⟩,hlt2.1,fun h=>?_⟩
      · have:=qN hok (List.mem_append_right _ (A9E.2 rfl)) hkn (fun x hx=>(hkx x).1 hx)
        omega
      · rcases A8I.1           h with h | h
        · omega
        · rcases A8I.1           h with h | h
          · omega
          · rcases hO2 _ h with h | h
            · have:=hOT _ h;omega
            · omega
  · rw[Cp,Cp];omega
  · rw[Cp,Cp];omega
  · rw[Cp,Cp];omega
  · intro j hj hjO
    rw[hin]at hjO
    rw[hget j (fun h=>hjO (.inl h)) (fun h=>hjO (.inr (.inl h))),gold j (by omega) (fun h=>hjO (.inr (.inr (.inl h))))]
  · intro j hj
    rw[hin]
    rcases A8I.1 hj with h | h
    · exact .inl (.inl h)
    · rcases A8I.1           h with h | h
      · exact .inl (.inr (.inl h))
      · rcases A8q.1             h with h | h
        · rcases hO2 _ h with h | h
          · exact .inl (.inr (.inr (.inl h)))
          · exact .inr (by omega)
        · rcases A8q.1             h with h | h
          · exact .inl (.inr (.inr (.inr h)))
          · have h:=A9E.1 h
            refine .inr ?_
            rw[h,CN];omega
end
theorem Ci{s:CO}{os:List Cg}:DL s.next s (ext s os):=⟨by rw[Ce,CN];omega,fun j hj=>Cm hj⟩
theorem DL.frO{s s':CO}(O:List Nat)(h:DL s.next s s'):Eb O s s':=⟨h.1,fun j hj _=>h.2 j hj⟩
theorem Fc.old{s s':CO}{S l:List Tm}{v:AV}(h:Fc s S l v)(k:DL s.next s s'):Fc s' S l v:=by
 rcases h with h | ⟨j,q,cap,h1,h2,h3,h4⟩
 ·exact .inl h
 ·exact .inr ⟨j,q,cap,h1,h2,A8L h3 k.1,by rw[k.2 j h3];exact h4⟩
theorem Yr{s:CO}{i:Nat}{ks:List Int}{k:Int}(hg:s.heap.get i=some (.map 3 (EZ ks)))(hk:i64 k):
  EF prog s 69 (.map (some i)) (iv k) (iv 1)=some (setObj s i (.map 3 (EZ (FO ks k)))):=by
 unfold EF
 simp only[underlying69,Sf,Do hk,EB,I4,hg,Hk,Option.bind_some,UR]
set_option maxRecDepth 20000 in
theorem uF{E:Dw}(hE:Cn E){s:CO}{p:Nat}{S:List Tm}{O:List Nat}(h:DD s p S O)(hsm:S.length<100000)(u:Tm)(hk:∀k∈u.kids,k∈S)(ho:u.ok){pv:AV}(hp:Fc s S u.kids pv):
    WF E 25 [.ptr (some (p,0)),.agg [iv u.kind,iv u.id,iv 0,iv 0,iv 0,.str u.ktext],.agg u.cells,pv] (fun r s'=>r=iv (ix (push S u) u:Int)∧∃O',DD s' p (push S u) O'∧Eb O s s'∧DR O O' s) s:=by
  obtain⟨tv,fi,vm,OT,e⟩:=h.ex
  have hc7:=Iy ho
  obtain⟨c0,c1,c2,c3,c4,c5,c6,hc,d0,d1,d2,d3,d4,d5,d6⟩:=u.cells7 ho
  refine hE.go A1d (by decide) rfl ?_
  have hplt:=e.plt
  have hflt:=e.flt
  have hobj:=e.obj
  have hfnd:=e.fnd
  have hlen:=gM hp
  generalize hs:s.next=b at hplt hflt
  have hs0:s=ext s []:=(Ca s).symm
  have hcp:=fun s' (hh:Fc s' S u.kids pv) i o=>Zd (s:=s') (i:=i) (o:=o) (J9 u) hh
  have hpe:∀os,Fc (ext s os) S u.kids pv:=fun os=>hp.old Ci
  generalize hK:(fun r s'=>r=iv (ix (push S u) u:Int)∧∃O',DD s' p (push S u) O'∧Eb O s s'∧DR O O' s)=K
  rw[hs0]
  simp only[A7A,vj,vk,hs,Qa,Qb,QS,Wg,VP,tw,hcp _ (hpe _),oF hs]
  have hlk:∀os,Dy prog (ext s os) 97 (.map (some fi)) (.agg (Em S u)) true=some (.tuple [if u∈S then iv (ix S u:Int)else iv 0,.bool (decide (u∈S))]):=fun os =>
    Vm (by rw[Cm (by rw[hs];exact hflt),hfnd]) h.ok hsm hk ho
  simp only[Em]at hlk
  simp only[vl,dK,A4G,A0y,A3Z,hplt,hobj,hs,hlk,Em,Qb,QS,Wg,Nat.reduceAdd,Nat.reduceLT]
  by_cases hu:u∈S
  · simp only [lA,    vn,    hu, if_true, Qb, QS, Wg]
    subst hK
    have hpu:push S u=S:=if_pos hu
    rw[hpu]
    exact⟨rfl,O,h.old Ci,Ci.frO O,DR.refl O s⟩
  · have hpu : push S u = S ++ [u] := if_neg hu
    have hfin:∀s' O',DD s' p (S++[u]) O'→Eb O s s'→DR O O' s→K (iv (S.length:Int)) s':=fun s' O' h1 h2 h3=>by
      subst hK
      rw[hpu]
      exact⟨by rw[oD hu],O',h1,h2,h3⟩
    simp only[lA,vo,vp,hu,if_false,hc,A0y,A3Z,iW,qD,hlen,tA,ip,qX,TD,Ee,OR,d0,d1,d2,d3,d4,d5,d6,hs,Wd,Qb,QS,Wg,Nat.reduceAdd,Nat.reduceLT]
    have hpb:=fun os=>hpe os
    have hmain:∀ (ks:List Int) (a10 a12 a16:AV),ks.Nodup→ks.length≤100000→(∀x,(x∈ks∨∃t∈u.kids,t.has x=true)↔u.has x=true) →
        Qb E lB (fun v s'=>WC E none (Ck.loop OL) (Cs 0 (Nr (fun x x_3 x_4=>Qb E U1 (fun v s'=>Qb E U2 (fun v s'=>Qb E U3 (fun v s'=>Jj (EL s' x_3) fun s'=>K (Hw v 6) s') [] v s') [] v s') [] x x_4) (Ends prog [(CX.var 6,none)] K))) v [] s') []
          [.ptr (some (p,0)),.agg [iv u.kind,iv u.id,iv 0,iv 0,iv 0,.str u.ktext],.agg [c0,c1,c2,c3,c4,c5,c6],pv,.ptr (some (nid b 0,0)),.ptr (some (nid b 1,0)),.int .i64 0,iv 0,.bool false,.ptr (some (nid b 3,0)),a10,.bool false,a12,Cx,Cx,Cx,a16]
          (ext s [R 53 0 false [iv u.kind,iv u.id,iv (part S u 0),iv (part S u 1),iv (part S u 2),.str u.ktext],R 34 0 false [c0,c1,c2,c3,c4,c5,c6],.map 3 (EZ ks),
            R 71 0 false [iv u.kind,iv u.id,iv (part S u 0),iv (part S u 1),iv (part S u 2),.str u.ktext,c0,c1,c2,c3,c4,c5,c6,iv (u.kids.length:Int),iv ((1:Nat):Int),.map (some (nid b 2))]]):=by
      intro ks a10 a12 a16 hn hl hx
      simp only[lB,hlen,Qb,QS]
      refine pY hE e h.ok hp (J9 u) hk _ _ _ _ _ _ _ _ _ _ _ _ _ _ _ _ _ _ _ _ _ _ _ _ hs u.kids [] ks 1 _ _ rfl hn (by simp;omega) (by omega) ?_
      intro ks' b10 b15 b16 hn' hx'
      simp only[QS]
      rw[if_pos trivial,qE]
      have:=tY (E:=E) e h.ok hsm hk ho hu (.agg [iv u.kind,iv u.id,iv 0,iv 0,iv 0,.str u.ktext]) (.agg [c0,c1,c2,c3,c4,c5,c6]) pv (.ptr (some (nid b 1,0))) (.int .i64 0) (iv 0) (.bool false) b10 (.bool false) a12 pv (iv (u.kids.length:Int)) b15 b16 (R 34 0 false [c0,c1,c2,c3,c4,c5,c6]) hs hn' (fun x=>by rw[hx',hx]) hfin
      simp only[FX,Em,hc,A8e,A8i]at this
      exact this
    by_cases hu0:u.kind=0
    · have hv:∃i,u=.var i:=by
        cases u<;>first | exact⟨_,rfl⟩ | (cases hu0;done)
      have hid:i64 u.id:=by obtain⟨i,rfl⟩:=hv;exact ho
      have hup:∀os,(ext s os).heap.get (nid b 2)=some (.map 3 [])→EF prog (ext s os) 69 (.map (some (nid b 2))) (iv u.id) (iv 1)=some (setObj (ext s os) (nid b 2) (.map 3 (EZ [u.id]))):=fun os hg=>Yr (ks:=[]) hg hid
      have hd:decide (u.kind=0)=true:=decide_eq_true hu0
      rw[hd,Qy]
      simp only[vq,A4D,Ee,nL,Zp,hs,Qb,QS,Wg,Nat.reduceAdd,Nat.reduceLT]
      rw[hup _ (by rw[CR hs (by simp)];rfl),Pg _ hs (by simp)]
      refine hmain [u.id] _ _ _ (by simp) (by simp) (fun x=>?_)
      obtain⟨i,rfl⟩:=hv
      show(x∈[i]∨∃t∈[],_)↔decide (i=x)=true
      simp only[A9E,A8K,false_and,exists_false,A9V,decide_eq_true_eq]
      exact eq_comm
    · simp only[hu0,A9a,QS]
      refine hmain [] _ _ _ A9A (by simp) (fun x=>?_)
      cases u<;>first | exact absurd rfl hu0 | simp[Tm.kids,Tm.has,or_assoc]
theorem I6(i o:Nat):Ch prog .eql 26 (.ptr (some (i,o))) (.ptr none)=some (.bool false):=by kernel_rfl
theorem oR{S:List Tm}{t:Tm}:decide ((ix S t:Int)<0)=false:=by simp
theorem A0h{S:List Tm}{t:Tm}(h:t∈S):decide ((S.length:Int)≤(ix S t:Int))=false:=by have:=NR h;simp;omega
def A3v(s:CO)(S:List Tm)(t:Tm)(r:AV):Prop:=∃m,r=.agg (FX S t m)∧QK s m t∧m<s.next
theorem Wl{E:Dw}(hE:Cn E){s:CO}{p:Nat}{S:List Tm}{O:List Nat}(h:DD s p S O){t:Tm}(ht:t∈S){K:AV→CO→Prop}
  (hK:∀r s',DL s.next s s'→A3v s' S t r→K r s'):WF E 38 [.ptr (some (p,0)),iv (ix S t:Int)] K s:=by
 obtain⟨tv,fi,vm,OT,e⟩:=h.ex
 obtain⟨m,j,r,hvm,rfl,hjO,hjr,hln,_⟩:=e.entry h.ok (JL ht)
 obtain⟨hva,hmb,_⟩:=e.vars _ _ _ (JL ht) hvm
 obtain⟨c0,c1,c2,c3,c4,c5,c6,hc,d0,d1,d2,d3,d4,d5,d6⟩:=t.cells7 (h.ok.ok t ht)
 rw[← hjr]at hln
 have hent:FX S t m=[iv t.kind,iv t.id,iv (part S t 0),iv (part S t 1),iv (part S t 2),.str t.ktext,c0,c1,c2,c3,c4,c5,c6,iv (t.kids.length:Int),iv (t.sz:Int),.map (some m)]:=by
  simp only[FX,Em,hc,A8e,A8i]
 rw[hent]at hln
 refine hE.go A1m (by decide) rfl ?_
 have hplt:=e.plt
 have hjlt:=e.lt j hjO
 have hobj:=e.obj
 generalize hs:s.next=b at hplt hjlt hmb hK
 have hs0:s=ext s []:=(Ca s).symm
 have hfin:∀os,K (.agg (FX S t m)) (ext s os):=fun os=>hK _ _ (by rw[← hs];exact Ci) ⟨m,rfl,hva.frame (Cm (by omega)),by rw[Ce,CN];omega⟩
 rw[hent]at hfin
 rw[hs0]
 simp only[A7J,wW,wX,wY,wZ,qX,hs,I6,Rz,Wc,oR,A0h ht,hplt,hjlt,hobj,NH,iY,A4E,TD,DQ underlying98,Cj underlying98 TD (NR ht),hln,FF,d0,d1,d2,d3,d4,d5,d6,Qa,Qb,QS,Wg,Nat.reduceAdd]
 exact hfin _
section
variable{E:Dw}(hE:Cn E){s:CO}{p:Nat}{S:List Tm}{O:List Nat}(h:DD s p S O){t:Tm}(ht:t∈S){K:AV→CO→Prop}
include hE h ht
theorem La(hK:∀s',DL s.next s s'→K (iv t.kind) s'):WF E 35 [.ptr (some (p,0)),iv (ix S t:Int)] K s:=by
 refine hE.go A1j (by decide) rfl ?_
 simp only[A7G,wO,Qa,Qb,QS]
 simp only[wP,Qb,QS]
 refine Wl hE h ht fun r s' ho he=>?_
 obtain⟨m,rfl,_,_⟩:=he
 simp only[QS,FX,Em,A3A,A2z,Wg]
 exact hK s' ho
theorem tp(hK:∀s',DL s.next s s'→K (iv (t.sz:Int)) s'):WF E 51 [.ptr (some (p,0)),iv (ix S t:Int)] K s:=by
 refine hE.go A1v (by decide) rfl ?_
 simp only[A7S,xe,Qa,Qb,QS]
 simp only[xf,Qb,QS]
 refine Wl hE h ht fun r s' ho he=>?_
 obtain⟨m,rfl,_,_⟩:=he
 obtain⟨c0,c1,c2,c3,c4,c5,c6,hc,_⟩:=t.cells7 (h.ok.ok t ht)
 simp only[QS,FX,Em,hc,A3C,Wg]
 exact hK s' ho
theorem Ys(hK:∀s',DL s.next s s'→K (.agg t.cells) s'):WF E 44 [.ptr (some (p,0)),iv (ix S t:Int)] K s:=by
 obtain⟨c0,c1,c2,c3,c4,c5,c6,hc,d0,d1,d2,d3,d4,d5,d6⟩:=t.cells7 (h.ok.ok t ht)
 rw[hc]at hK
 refine hE.go A1r (by decide) rfl ?_
 generalize hs:s.next=b at hK
 have hs0:s=ext s []:=(Ca s).symm
 have hat:=fun os (K:AV→CO→Prop)=>Wl (K:=K) hE (h.old (Ci (os:=os))) ht
 rw[hs0]
 simp only[A7O,xN,xO,A6m,hs,Qa,Qb,QS,Wg]
 refine hat _ _ fun r s' ho he=>?_
 obtain⟨m,rfl,_,_⟩:=he
 have hg:s'.heap.get (nid b 0)=some (R 34 0 false [.int .i64 0,.bool false,.str [],.str [],.slice none 0 (some 0),.slice none 0 (some 0),.int .i64 0]):=by
  rw[ho.2 _ (by rw[Ce,hs,CN,CN];simp),CR hs (by simp)];rfl
 have hb:DL b s (setObj s' (nid b 0) (R 34 0 false [c0,c1,c2,c3,c4,c5,c6])):=by
  refine⟨?_,fun j hj=>?_⟩
  ·have:=ho.1;rw[Ce,CN]at this;rw[Cp];omega
  ·rw[CS _ (by rw[CN];omega),ho.2 j (by rw[Ce,CN];omega),Cm (by omega)]
 have:=hK _ hb
 simp only[QS,FX,Em,hc,A3B,qD,iW,hg,d0,d1,d2,d3,d4,d5,d6,FF,Wg,Nat.reduceAdd]
 exact this
end
theorem Cl.parts{s:CO}{S l:List Tm}{v:AV}(h:Cl s v (l.map fun t=>(ix S t:Int)))(h0:0<l.length):Fc s S l v:=by
 have he:Dv (l.map fun t=>(ix S t:Int))=LL S l:=by simp[Dv,LL]
 rcases h with⟨h1,rfl⟩ | ⟨j,q,cap,rfl,h1,h2⟩
 ·exact .inl ⟨by simpa using h1,rfl⟩
 ·rw[he,A8c]at h2
  exact .inr ⟨j,q,cap,by rw[A8c],h0,h1,h2⟩
theorem UT:Cd prog 30 0 (zipIdx [] [])=some (R 3 1 false []):=by kernel_rfl
theorem XT(j q n:Nat)(cap:Option Nat):Ch prog .eql 30 (.slice (some (j,q)) n cap) (.slice none 0 (some 0))=some (.bool false):=by kernel_rfl
theorem qU:FU prog 3 1=true:=by kernel_rfl
theorem WO:EE prog 30=true:=by kernel_rfl
theorem YY{s:CO}{v:AV}{l:List Int}(h:Cl s v l):FT prog s 3 1 v=some (l.length,Dv l):=by
  rcases h with⟨rfl,rfl⟩ | ⟨j,q,cap,rfl,h1,h2⟩
  · rfl
  · show(Pr s j q l.length 1).bind _=_
    by_cases h0:l.length=0
    · have:l=[]:=A9O h0
      subst this
      rfl
    · rw [show Pr   s j q l.length 1 = Di    s j q (l.length * 1) from by unfold Pr;   rw [Iw      h0]; rfl, A8S,         Et,      h2]
      rfl
theorem Wi{s:CO}{i:Nat}{sp:Bool}{v:AV}{l:List Int}(hi:s.heap.get i=some (R 3 1 sp []))(h:Cl s v l)(h0:0<l.length)(hl:l.length≤1000000):
  DE prog s [30,30] [.slice (some (i,0)) 0 (some 0),v]=some (.slice (some (s.next,0)) l.length none,newObj s (R 3 1 true (Dv l))):=by
 have hsrc:=YY h
 have hv:∃a n c,v=.slice a n c:=by
  rcases h with⟨_,rfl⟩ | ⟨_,_,_,rfl,_⟩<;>exact⟨_,_,_,rfl⟩
 obtain⟨a,n,c,rfl⟩:=hv
 have h1:Nat.ble (l.length * 8) 1099511627776=true:=EA (by omega)
 have h2:Nat.ble l.length 1099511627776=true:=EA (by omega)
 have h3:Nat.ble l.length 0=false:=Pu (by omega)
 have h4:Di s i 0 (0 * 1)=some []:=by
  rw[Et,hi];rfl
 simp only[DE,underlying30,HC,A6H,Option.bind_some,hsrc,WO,Vd,h1,h2,appTo,JS,h3,h4,cond_false,FB,qU,A8i,EB,Bool.and_self,A8V]
 rfl
theorem Oy{E:Dw}(hE:Cn E){s:CO}{v:AV}{l:List Int}(h:Cl s v l)(h0:0<l.length)(hl:l.length≤1000000){K:AV→CO→Prop}
  (hK:K (.slice (some (nid s.next 1,0)) l.length none) (ext s [R 3 1 false [],R 3 1 true (Dv l)])):WF E 39 [v] K s:=by
 refine hE.go mV (by decide) rfl ?_
 have hv:∃j q c,v=.slice (some (j,q)) l.length c:=by
  rcases h with⟨rfl,_⟩ | ⟨_,_,_,rfl,_⟩
  ·cases h0
  ·exact⟨_,_,_,rfl⟩
 obtain⟨j,q,c,rfl⟩:=hv
 generalize hs:s.next=b at hK
 have hs0:s=ext s []:=(Ca s).symm
 have happ:=Wi (s:=ext s [R 3 1 false []]) (i:=nid b 0) (by rw[CR hs (by simp)];rfl) (h.old Ci) h0 hl
 rw[Ce,hs,H7]at happ
 rw[hs0]
 simp only[A6N,lN,lO,lP,XT,UT,hs,happ,Qa,Qb,QS,Wg]
 exact hK
theorem p5{s:CO}{i o n:Nat}(h:n=0∨n=2∨n=3):DK prog 51 false true false s [.ptr (some (i,o)),iv (n:Int)]=some (.slice (some (i,o)) n (some 3)):=by
 have h0:DK prog 51 false true false s [.ptr (some (i,o)),iv 0]=some (.slice (some (i,o+0 * 1)) 0 (some 3)):=by kernel_rfl
 have h2:DK prog 51 false true false s [.ptr (some (i,o)),iv 2]=some (.slice (some (i,o+0 * 1)) 2 (some 3)):=by kernel_rfl
 have h3:DK prog 51 false true false s [.ptr (some (i,o)),iv 3]=some (.slice (some (i,o+0 * 1)) 3 (some 3)):=by kernel_rfl
 rcases h with rfl | rfl | rfl
 ·exact h0
 ·exact h2
 ·exact h3
theorem Z6(t:Tm):t.kids.length=0∨t.kids.length=2∨t.kids.length=3:=by cases t<;>simp[Tm.kids]
def Ew(S:List Tm)(t:Tm):List Int:=t.kids.map fun u=>(ix S u:Int)
theorem GK(S:List Tm)(t:Tm):(Ew S t).length=t.kids.length:=A8c ..
theorem ay{E:Dw}(hE:Cn E){s:CO}{j q:Nat}{c:Option Nat}{K:AV→CO→Prop}
  (hK:K (.slice (some (nid s.next 0,0)) 0 (some 0)) (ext s [R 3 1 false []])):WF E 39 [.slice (some (j,q)) 0 c] K s:=by
 refine hE.go mV (by decide) rfl ?_
 generalize hs:s.next=b at hK
 have hs0:s=ext s []:=(Ca s).symm
 have happ:∀ (s':CO) (i:Nat),DE prog s' [30,30] [.slice (some (i,0)) 0 (some 0),.slice (some (j,q)) 0 c]=some (.slice (some (i,0)) 0 (some 0),s'):=fun s' i=>by kernel_rfl
 rw[hs0]
 simp only[A6N,lN,lO,lP,XT,UT,hs,happ,Qa,Qb,QS,Wg]
 exact hK
section
variable{E:Dw}(hE:Cn E){s:CO}{p:Nat}{S:List Tm}{O:List Nat}(h:DD s p S O){t:Tm}(ht:t∈S){K:AV→CO→Prop}
include hE h ht
theorem sr(hK:∀v s',DL s.next s s'→Cl s' v (Ew S t)→K v s'):WF E 14 [.ptr (some (p,0)),iv (ix S t:Int)] K s:=by
  obtain⟨c0,c1,c2,c3,c4,c5,c6,hc,d0,d1,d2,d3,d4,d5,d6⟩:=t.cells7 (h.ok.ok t ht)
  refine hE.go A1V (by decide) rfl ?_
  simp only[A6s,ut,uu,Qa,Qb,QS,Wg]
  refine Wl hE h ht fun r s' ho he=>?_
  obtain⟨m,rfl,_,_⟩:=he
  generalize hs:s'.next=b
  have hs0:s'=ext s' []:=(Ca s').symm
  rw[hs0]
  simp only[Qb,QS,uv,FX,Em,hc,qX,TD,Ee,OU,Zq,VP,hs,d0,d1,d2,d3,d4,d5,d6,p5 (Z6 t),Wg,Nat.reduceAdd]
  generalize hs2:ext s' _=s2
  have hold:DL s'.next s' s2:=by rw[← hs2];exact Ci
  have hn2:s2.next=nid b 1:=by rw[← hs2,Ce,hs];rfl
  have ho2:DL s.next s s2:=ho.trans (hold.mono ho.1)
  have hfin:∀os v,Cl (ext s2 os) v (Ew S t)→K v (ext s2 os):=fun os v hv=>hK _ _ (ho2.trans (Ci.mono ho2.1)) hv
  rcases A9D t.kids.length with h0 | h0
  · have hk0:Ew S t=[]:=A9O (by rw[GK];exact h0)
    rw[h0]
    refine ay hE ?_
    simp only[QS]
    refine hfin _ _ (.inr ⟨nid s2.next 0,0,some 0,by rw[hk0];rfl,by rw[Ce,CN,CN];simp,by rw[CR rfl (by simp),hk0];exact D3 (by simp)⟩)
  · refine Oy        hE (l := Ew    S t) (.inr ⟨nid b 0, 2, some 3, by rw [GK],        by rw [hn2, CN,     CN];     omega, ?_⟩) (by rw [GK];        exact h0) (by rw [GK];        have := J9         t; omega) ?_
    · rw[← hs2,CR hs (by simp),GK]
      show EV (some (R _ _ _ _)) _ _=_
      rw[D3 (by simp;have:=J9 t;omega)]
      cases t<;>rfl
    · rw[GK]
      simp only[QS]
      refine hfin _ _ (.inr ⟨nid s2.next 1,0,none,by rw[GK],by rw[Ce,CN,CN];simp,by rw[CR rfl (by simp)];exact(D3 (by rw[FD,A8V];exact A8H _)).trans (by rw[A8p,A8m (by rw[FD];exact A8H _)])⟩)
end
theorem Tv(ks:List Int):(DS ks).length=ks.length:=(EM ks).length_eq
end
end Go.Proofs.YtoaaclpjkelofaaGreatDoor.Am
set_option linter.all false
namespace Go.Proofs.YtoaaclpjkelofaaGreatDoor.Am
open Go Go.Proofs
noncomputable section
open Tryz
theorem Sj(l:List Nat):Fb l l=true:=Jp.2 rfl
theorem NG(a:Int):Zn a a=true:=by rw[Hn];simp
theorem He(k:IntKind):FS k k=true:=by cases k<;>rfl
theorem Jz(i o:Nat):IG (.ptr (some (i,o))) (.ptr (some (i,o)))=true:=by simp[IG]
theorem A2X:∀n,n<13→IG (.agg (Tm.con n).cells) (.agg (Tm.con n).cells)=true:=by
 intro n h
 have:n=0∨n=1∨n=2∨n=3∨n=4∨n=5∨n=6∨n=7∨n=8∨n=9∨n=10∨n=11∨n=12:=by omega
 rcases this with rfl | rfl | rfl | rfl | rfl | rfl | rfl | rfl | rfl | rfl | rfl | rfl | rfl<;>rfl
theorem ew:∀n,n<13→∃tag c1 c2 c3 c5 c6,(Tm.con n).cells=[iv tag,c1,c2,c3,.slice none 0 (some 0),c5,c6]∧decide (tag=5)=false∧c1.isCell=true∧c2.isCell=true∧c3.isCell=true∧c5.isCell=true∧c6.isCell=true:=by
 intro n h
 have:n=0∨n=1∨n=2∨n=3∨n=4∨n=5∨n=6∨n=7∨n=8∨n=9∨n=10∨n=11∨n=12:=by omega
 rcases this with rfl | rfl | rfl | rfl | rfl | rfl | rfl | rfl | rfl | rfl | rfl | rfl | rfl<;>exact⟨_,_,_,_,_,_,rfl,by decide,rfl,rfl,rfl,rfl,rfl⟩
theorem XK:∀n,n<13→NJ SX 26 [.agg (Tm.con n).cells]=some (.bool true)∧NJ SX 27 [.agg (Tm.con n).cells]=some (.str (Tm.con n).ktext):=by
 intro n h
 have:n=0∨n=1∨n=2∨n=3∨n=4∨n=5∨n=6∨n=7∨n=8∨n=9∨n=10∨n=11∨n=12:=by omega
 rcases this with rfl | rfl | rfl | rfl | rfl | rfl | rfl | rfl | rfl | rfl | rfl | rfl | rfl<;>exact⟨by kernel_rfl,by kernel_rfl⟩
def Fp(s:CO)(O:List Nat):Prop:=Ja s 1 FE=true∧1<s.next∧1 ∉ O
theorem Ec{s s':CO}{g:Nat}{cells:List AV}(h:s'.heap.get g=s.heap.get g):Ja s' g cells=Ja s g cells:=by unfold Ja;rw[h]
theorem Fp.step{s s':CO}{O O':List Nat}(h:Fp s O)(f:Eb O s s')(g:DR O O' s):Fp s' O':=
 ⟨by rw[Ec (f.2 1 h.2.1 h.2.2)];exact h.1,A8L h.2.1 f.1,fun hm=>(g 1 hm).elim h.2.2 (fun hl=>by have:=h.2.1;omega)⟩
theorem Fp.old{s s':CO}{O:List Nat}(h:Fp s O)(k:DL s.next s s'):Fp s' O:=h.step (k.frO O) (DR.refl O s)
theorem aU{E:Dw}(hE:Cn E){s:CO}(hg:Ja s 1 FE=true){n:Nat}(hn:n<13){K:AV→CO→Prop}(hK:K (.bool true) s):WF E 26 [.agg (Tm.con n).cells] K s:=by
 refine WF.native (hE.tab _ _ _ (.bool true,s) ?_) hK
 have h1:=(XK n hn).1
 have h2:NZ 26 [.agg (Tm.con n).cells] s=(NJ SX 26 [.agg (Tm.con n).cells]).bind fun r=>CU (Ja s 1 FE) (some (r,s)):=rfl
 unfold Ig Lr
 rw[h2,h1,Option.bind_some,hg]
 rfl
theorem iC{E:Dw}(hE:Cn E){s:CO}(hg:Ja s 1 FE=true){n:Nat}(hn:n<13){K:AV→CO→Prop}(hK:K (.str (Tm.con n).ktext) s):WF E 27 [.agg (Tm.con n).cells] K s:=by
 refine WF.native (hE.tab _ _ _ (.str (Tm.con n).ktext,s) ?_) hK
 have h1:=(XK n hn).2
 have h2:NZ 27 [.agg (Tm.con n).cells] s=(NJ SX 27 [.agg (Tm.con n).cells]).bind fun r=>CU (Ja s 1 FE) (some (r,s)):=rfl
 unfold Ig Lr
 rw[h2,h1,Option.bind_some,hg]
 rfl
end
end Go.Proofs.YtoaaclpjkelofaaGreatDoor.Am
set_option linter.all false
set_option maxHeartbeats 1000000
namespace Go.Proofs.YtoaaclpjkelofaaGreatDoor.Am
open Go Go.Proofs
noncomputable section
open Tryz
theorem Nh{E:Dw}(hE:Cn E){s s1:CO}{p:Nat}{S:List Tm}{O:List Nat}(h:DD s p S O)(hsm:S.length<100000)(ho1:DL s.next s s1)(u:Tm)(hk:∀k∈u.kids,k∈S)(ho:u.ok){pv:AV}(hp:Fc s1 S u.kids pv){K:AV→CO→Prop}
  (hK:∀s' O',DD s' p (push S u) O'→Eb O s s'→DR O O' s→K (iv (ix (push S u) u:Int)) s'):
  WF E 25 [.ptr (some (p,0)),.agg [iv u.kind,iv u.id,iv 0,iv 0,iv 0,.str u.ktext],.agg u.cells,pv] K s1:=by
 refine(uF hE (h.old ho1) hsm u hk ho hp).mono ?_
 rintro r s' ⟨rfl,O',h1,h2,h3⟩
 exact hK s' O' h1 ((ho1.frO O).trans h2 (DR.refl O s)) (DR.trans (DR.refl O s) h3 ho1.1)
theorem iq(a b:Int):C8 prog 53 (zipIdx [0,1] [iv a,iv b])=some (.agg [iv a,iv b,iv 0,iv 0,iv 0,.str []]):=by kernel_rfl
theorem bc(a:Int):C8 prog 53 (zipIdx [0] [iv a])=some (.agg [iv a,iv 0,iv 0,iv 0,iv 0,.str []]):=by kernel_rfl
theorem iu(a:Int)(l:List Nat):C8 prog 53 (zipIdx [0,3] [iv a,.str l])=some (.agg [iv a,iv 0,iv 0,iv 0,iv 0,.str l]):=by kernel_rfl
theorem QQ:C8 prog 34 (zipIdx [] [])=some (.agg Tm.nullC):=by kernel_rfl
theorem EO(a b:Int):Cd prog 30 2 (zipIdx [0,1] [iv a,iv b])=some (R 3 1 false (Dv [a,b])):=by kernel_rfl
theorem Ll(a b c:Int):Cd prog 30 3 (zipIdx [0,1,2] [iv a,iv b,iv c])=some (R 3 1 false (Dv [a,b,c])):=by kernel_rfl
theorem Fo(a:Int):Cd prog 30 1 (zipIdx [0] [iv a])=some (R 3 1 false (Dv [a])):=by kernel_rfl
section
variable{E:Dw}(hE:Cn E){s:CO}{p:Nat}{S:List Tm}{O:List Nat}(h:DD s p S O)(hsm:S.length<100000){K:AV→CO→Prop}
include hE h hsm
theorem uH{i:Int}(hi:i64 i)(hK:∀s' O',DD s' p (push S (.var i)) O'→Eb O s s'→DR O O' s→K (iv (ix (push S (.var i)) (.var i):Int)) s'):WF E 8 [.ptr (some (p,0)),iv i] K s:=by
 refine hE.go A5Z (by decide) rfl ?_
 simp only[c8,A5M,A5N,A5O,I6,iq,QQ,Qa,Qb,QS]
 refine Nh hE h hsm (DL.refl _ _) (.var i) (fun _ h=>by cases h) hi (.inl ⟨rfl,rfl⟩) fun s' O' h1 h2 h3=>?_
 simp only[QS]
 exact hK s' O' h1 h2 h3
theorem dx{n:Nat}(hn:n<13)(hg:Fp s O)(hK:∀s' O',DD s' p (push S (.con n)) O'→Eb O s s'→DR O O' s→K (iv (ix (push S (.con n)) (.con n):Int)) s'):WF E 9 [.ptr (some (p,0)),.agg (Tm.con n).cells] K s:=by
 obtain⟨tag,c1,c2,c3,c5,c6,hc,h5,d1,d2,d3,d5,d6⟩:=ew n hn
 have hp:=fun os (K:AV→CO→Prop)=>Nh (K:=K) hE h hsm (Ci (os:=os)) (.con n) (fun _ h=>by cases h) hn (.inl ⟨rfl,rfl⟩)
 have hr:=fun(K:AV→CO→Prop) os=>aU (K:=K) hE (s:=ext s os) (hg.old Ci).1 hn
 have ht:=fun(K:AV→CO→Prop) os=>iC (K:=K) hE (s:=ext s os) (hg.old Ci).1 hn
 have hce:=A2X n hn
 rw[hc]at hr ht hce
 refine hE.go A5a (by decide) rfl ?_
 generalize hs:s.next=b
 have hs0:s=ext s []:=(Ca s).symm
 rw[hs0]
 simp only[c9,A5Q,A5R,A5S,hc,I6,hs,qD,iW,Qa,Qb,QS,Wg,Nat.reduceAdd]
 refine hr _ _ ?_
 simp only[Wf,Bool.not_true,Bool.not_false,Wd,Wa,h5,Ee,A6E,A2v,A2w,hs,DQ underlying28,QS,Wg]
 have hgt:decide ((0:Int)<((0:Nat):Int))=false:=rfl
 simp only[hgt,A5T,qD,iW,hs,Qb,QS,Wg,Nat.reduceAdd]
 refine ht _ _ ?_
 refine⟨⟨Hh ?_ hce,trivial⟩,?_⟩
 ·simp only[QS,qD,iW,hs,Wg,Nat.reduceAdd]
 simp only[iu,QS]
 rw[← hc]
 refine hp _ _ fun s' O' h1 h2 h3=>?_
 simp only[QS]
 exact hK s' O' h1 h2 h3
theorem oL(hK:K (iv (S.length:Int)) s):WF E 61 [.ptr (some (p,0))] K s:=by
 have _hs:=hsm
 obtain⟨tv,fi,vm,OT,e⟩:=h.ex
 obtain⟨a,c,htv,_⟩:=e.buf.slice
 subst htv
 refine hE.go A1z (by decide) rfl ?_
 simp only[A7W,xy,xz,yA,I6,e.obj,iY,NH,DQ underlying98,Qa,Qb,QS,Wg]
 exact hK
end
end
end Go.Proofs.YtoaaclpjkelofaaGreatDoor.Am
set_option linter.all false
namespace Go.Proofs.YtoaaclpjkelofaaGreatDoor.Am
open Go Go.Proofs
noncomputable section
open Tryz
def EK:Tm:=.con 0
def dR(n:Nat)(x:Int):Bool:=decide (0≤x) && decide (x<n)
def Ev(S:List Tm)(x:Int):Tm:=if dR S.length x then S.getD x.toNat EK else EK
def Kg(n:Nat):List Tm→List Int→List Tm
 | S,[]=>S
 | S,x::l=>Kg n (if dR n x then S else push S EK) l
theorem If{S:List Tm}{u:Tm}:u∈push S u:=by
 unfold push
 split
 ·assumption
 ·simp
theorem X6{S:List Tm}{u t:Tm}(h:t∈S):t∈push S u:=by
 unfold push
 split
 ·exact h
 ·exact List.mem_append_left _ h
theorem dU{S:List Tm}{u t:Tm}(h:t∈S):ix (push S u) t=ix S t:=by
 unfold push
 split
 ·rfl
 ·exact Ob _ h
theorem Ic{S:List Tm}{u:Tm}:(push S u).length≤S.length+1:=by
 unfold push
 split<;>simp
theorem UQ{S:List Tm}:push (push S EK) EK=push S EK:=if_pos If
theorem Io{n:Nat}{S:List Tm}:∀l,Kg n (push S EK) l=push S EK
 | []=>rfl
 | x::l=>by
  unfold Kg
  split
  ·exact Io l
  ·rw[UQ];exact Io l
theorem Sl{n:Nat}{S:List Tm}:∀l,Kg n S l=S∨Kg n S l=push S EK
 | []=>.inl rfl
 | x::l=>by
  unfold Kg
  split
  ·exact Sl l
  ·exact .inr (Io l)
theorem qF{n:Nat}{S:List Tm}:∀ {l},(∀x∈l,dR n x=true)→Kg n S l=S
 | [],_=>rfl
 | x::l,h=>by
  unfold Kg
  rw[if_pos (h x A8M)]
  exact qF fun y hy=>h y (A8J _ hy)
theorem uE{n:Nat}{S:List Tm}{l:List Int}{t:Tm}(h:t∈S):t∈Kg n S l:=by
 rcases Sl (n:=n) (S:=S) l with e | e<;>rw[e]
 ·exact h
 ·exact X6 h
theorem A3M{n:Nat}{S:List Tm}{l:List Int}{t:Tm}(h:t∈S):ix (Kg n S l) t=ix S t:=by
 rcases Sl (n:=n) (S:=S) l with e | e<;>rw[e]
 exact dU h
theorem P9{S:List Tm}{x:Int}(h:dR S.length x=true):Ev S x∈S∧(S.Nodup→(ix S (Ev S x):Int)=x):=by
 unfold dR at h
 simp only[A9W,decide_eq_true_eq]at h
 have hlt:x.toNat<S.length:=by omega
 have he:Ev S x=S[x.toNat]:=by
  unfold Ev dR
  simp only[h.1,h.2,A9Z,Bool.and_self,if_true]
  rw[A9K,A8O hlt];rfl
 refine⟨by rw[he];exact List.getElem_mem _,fun hn=>?_⟩
 rw[he,A0i hn (A8O hlt)]
 omega
theorem Lp{S:List Tm}{t:Tm}(h:t∈S):Ev S (ix S t:Int)=t∧dR S.length (ix S t:Int)=true:=by
 have hl:=NR h
 have h1:dR S.length (ix S t:Int)=true:=by simp[dR];omega
 refine⟨?_,h1⟩
 unfold Ev
 rw[if_pos h1,A9K,Int.toNat_natCast,JL h];rfl
theorem Yo{n:Nat}{S:List Tm}:∀ {l:List Int},n=S.length→∀x∈l,Ev S x∈Kg n S l
  | [],_,x,h=>by cases h
  | y :: l, hn, x, h => by
    by_cases hi:dR S.length x=true
    · exact uE (P9 hi).1
    · have ht:Ev S x=EK:=by unfold Ev;rw[if_neg hi]
      rw[ht]
      have:∀l,x∈l→EK∈Kg n S l:=by
        intro l
        induction l with
        | nil=>intro h;cases h
        | cons z l ih =>
          intro h
          unfold Kg
          rcases A8I.1 h with rfl | h
          · rw[hn,if_neg hi,Io];exact If
          · split
            · exact ih h
            · rw[Io];exact If
      exact this _ h
end
end Go.Proofs.YtoaaclpjkelofaaGreatDoor.Am
set_option linter.all false
set_option maxHeartbeats 1000000
set_option maxRecDepth 100000
namespace Go.Proofs.YtoaaclpjkelofaaGreatDoor.Am
open Go Go.Proofs
noncomputable section
open Tryz
theorem Z4(l m:List Int):Dv (l++m)=Dv l++Dv m:=A8r ..
theorem sj(done rest:List Int)(x y:Int):(Dv (done++x::rest)).set done.length (iv y)=Dv (done++y::rest):=by
 simp[Dv]
section
variable{E:Dw}(hE:Cn E){s0:CO}{O:List Nat}{p:Nat}{S:List Tm}(hS:S.length<99990){j len:Nat}(hlen:len≤1000)(a1 a2:AV)(hj0:s0.next≤j)(hg0:1<s0.next)
include hE hS hlen hj0 hg0
theorem bA{Q:Da→Prop}{marks:List Nat}:∀ (rest done:List Int)(S1:List Tm)(O1:List Nat)(s1:CO)(x5 x6 x10 x11:AV),
    (S1=S∨S1=push S EK)→DD s1 p S1 O1→Fp s1 O1→Eb O s0 s1→DR O O1 s0→s1.heap.get j=some (R 3 1 true (Dv (done++rest)))→j<s1.next→j ∉ O1→(done++rest).length=len →
    (∀ (s2:CO) (O2:List Nat) (y5 y6 y9 y10 y11:AV),DD s2 p (Kg S.length S1 rest) O2→Fp s2 O2→Eb O s0 s2→DR O O2 s0 →
      s2.heap.get j=some (R 3 1 true (Dv (done++rest.map fun x=>(ix (Kg S.length S1 rest) (Ev S x):Int))))→j<s2.next→j ∉ O2 →
      Cs 0 Q ⟨.exit 0,[.ptr (some (p,0)),a1,a2,iv (S.length:Int),.slice (some (j,0)) len none,y5,y6,.slice (some (j,0)) len none,iv (len:Int),y9,y10,y11],marks,s2⟩) →
    WC E none (Ck.loop QW) (Cs 0 Q) [.ptr (some (p,0)),a1,a2,iv (S.length:Int),.slice (some (j,0)) len none,x5,x6,.slice (some (j,0)) len none,iv (len:Int),iv (done.length:Int),x10,x11] marks s1:=by
  intro rest
  induction rest with
  | nil =>
    intro done S1 O1 s1 x5 x6 x10 x11 hS1 hst hg hf hgr hj hjl hjO hl hq
    refine WC.loop' ?_
    have hlt:¬ ((done.length:Int)<(len:Int)):=by rw[← hl];simp
    simp only[QW,Wt,hlt,A9a,Qa,Qb,QS]
    exact hq s1 O1 _ _ _ _ _ hst hg hf hgr hj hjl hjO
  | cons x rest ih =>
    intro done S1 O1 s1 x5 x6 x10 x11 hS1 hst hg hf hgr hj hjl hjO hl hq
    refine WC.loop' ?_
    obtain⟨L,hL⟩:∃L,L=Ck.loop QW:=⟨_,rfl⟩
    rw[← hL]
    have hlt:((done.length:Int)<(len:Int)):=by rw[← hl];simp;omega
    have hltn:done.length<len:=by omega
    have hld:DY (s1.heap.get j) done.length=some (iv x):=by
      rw[hj,Lc];exact dT (by simp)
    have hadd:i64 ((done.length:Int)+1):=by unfold i64;omega
    have hlen1:(done++[x]).length=done.length+1:=by simp
    have hS1l:S1.length<99991:=by
      rcases hS1 with rfl | rfl
      · omega
      · have:=Ic (S:=S) (u:=EK);omega
    have hsub:∀t∈S,t∈S1∧ix S1 t=ix S t:=fun t ht=>by
      rcases hS1 with rfl | rfl
      · exact⟨ht,rfl⟩
      · exact⟨X6 ht,dU ht⟩
    by_cases hi:dR S.length x=true
    · have h1 : decide (x < 0) = false := by unfold dR  at hi; simp only [A9W,              decide_eq_true_eq] at hi; simp; omega
      have h2:decide ((S.length:Int)≤x)=false:=by unfold dR at hi;simp only[A9W,decide_eq_true_eq]at hi;simp;omega
      have hth:Kg S.length S1 (x::rest)=Kg S.length S1 rest:=by conv=>lhs;unfold Kg;rw[if_pos hi]
      have hSn:S.Nodup:=by
        rcases hS1 with rfl | rfl
        · exact hst.ok.nd
        · have := hst.ok.nd; unfold push at this; split at this
          · exact this
          · exact(List.nodup_append.1 this).1
      have hx:(ix (Kg S.length S1 rest) (Ev S x):Int)=x:=by
        rw[A3M (hsub _ (P9 hi).1).1,(hsub _ (P9 hi).1).2]
        exact(P9 hi).2 hSn
      have:=ih (done++[x]) S1 O1 s1 (iv (done.length:Int)) (iv x) (.bool true) (.bool false) hS1 hst hg hf hgr (by rw[hj];simp) hjl hjO (by rw[← hl];simp) (fun s2 O2 y5 y6 y9 y10 y11 g1 g2 g3 g4 g5 g6 g7=>hq s2 O2 y5 y6 y9 y10 y11 (by rw[hth];exact g1) g2 g3 g4 (by rw[g5,hth,A8U,hx];simp) g6 g7)
      rw[← hL,hlen1]at this
      simp only[QW,Wt,cC,cD,cE,hlt,A9Z,Qa,Qb,QS,h1,h2,Cj underlying30 HC hltn,Ee,hld,A8S,Db _ _ _ _ hadd,Wg]
      exact this
    · have h12:decide (x<0)=true∨decide (x<0)=false∧decide ((S.length:Int)≤x)=true:=by
        unfold dR at hi;simp only[A9W,decide_eq_true_eq]at hi
        rcases Int.lt_or_le x 0 with h' | h'
        · exact .inl (decide_eq_true h')
        · exact .inr ⟨by simp;omega,by simp;omega⟩
      have hth:Kg S.length S1 (x::rest)=push S1 EK:=by
        conv=>lhs;unfold Kg
        rw[if_neg hi]
        exact Io rest
      have hth2:Kg S.length (push S1 EK) rest=push S1 EK:=Io rest
      have htm:Ev S x=EK:=by unfold Ev;rw[if_neg hi]
      have hS2:push S1 EK=S∨push S1 EK=push S EK:=by
        rcases hS1 with rfl | rfl
        · exact .inr rfl
        · exact .inr UQ
      have hcall:∀ (K:AV→CO→Prop),(∀s' O',DD s' p (push S1 EK) O'→Eb O1 s1 s'→DR O1 O' s1→K (iv (ix (push S1 EK) EK:Int)) s')→WF E 9 [.ptr (some (p,0)),.agg Tm.nullC] K s1:=fun K hK =>
        dx hE hst (by omega) (n:=0) (by omega) hg hK
      have hafter:∀s' O' (g1:DD s' p (push S1 EK) O') (g2:Eb O1 s1 s') (g3:DR O1 O' s1) (y10:AV),
          WC E none L (Cs 0 Q) [.ptr (some (p,0)),a1,a2,iv (S.length:Int),.slice (some (j,0)) len none,iv (done.length:Int),iv x,.slice (some (j,0)) len none,iv (len:Int),iv ((done.length:Int)+1),y10,.bool true] marks
            (setObj s' j (R 3 1 true (Dv (done++(ix (push S1 EK) EK:Int)::rest)))):=by
        intro s' O' g1 g2 g3 y10
        have hjO':j ∉ O':=fun hm=>(g3 j hm).elim hjO (fun hl=>by omega)
        have hfr:Eb O s0 s':=hf.trans g2 hgr
        have hst2:DD (setObj s' j (R 3 1 true (Dv (done++(ix (push S1 EK) EK:Int)::rest)))) p (push S1 EK) O':=by
          refine g1.frame (A8H _) fun k hk=>CS _ fun e=>hjO' (e▸hk)
        have hg2:Fp (setObj s' j (R 3 1 true (Dv (done++(ix (push S1 EK) EK:Int)::rest)))) O':=by
          obtain⟨q1,q2,q3⟩:=hg.step g2 g3
          exact⟨by rw[Ec (CS _ (by omega))];exact q1,q2,q3⟩
        have:=ih (done++[(ix (push S1 EK) EK:Int)]) (push S1 EK) O' _ (iv (done.length:Int)) (iv x) y10 (.bool true) hS2 hst2 hg2 ⟨hfr.1,fun k hk hkO=>by rw[CS _ (by omega)];exact hfr.2 k hk hkO⟩ (hgr.trans g3 hf.1) (by rw[Co];simp) (by rw[Cp];exact A8L hjl g2.1) hjO' (by rw[← hl];simp) (fun s2 O2 y5 y6 y9 y10 y11 k1 k2 k3 k4 k5 k6 k7=>hq s2 O2 y5 y6 y9 y10 y11 (by rw[hth,← hth2];exact k1) k2 k3 k4 (by rw[k5,hth,hth2,A8U,htm];simp) k6 k7)
        rw[← hL,show(done++[(ix (push S1 EK) EK:Int)]).length=done.length+1 from by simp]at this
        exact this
      have hrest:∀ (y10:AV) s' O',DD s' p (push S1 EK) O'→Eb O1 s1 s'→DR O1 O' s1 →
          Qd [] OC.push [.agg Tm.nullC] [.ptr (some (p,0)),a1,a2,iv (S.length:Int),.slice (some (j,0)) len none,iv (done.length:Int),iv x,.slice (some (j,0)) len none,iv (len:Int),iv (done.length:Int),y10,.bool true]
            (fun x x_1 x_2=>Jj (CQ prog 30 (Hw x_1 4) (Hw x_1 5)) fun v =>
              Jj (match Cz prog x_2 3 v (Hw x 0)with | some s=>some (Cx,s) | none=>none) fun p=>Qb E cE (fun v s'=>WC E none L (Cs 0 Q) v marks s') [] x_1 p.snd) (iv (ix (push S1 EK) EK:Int)) s':=by
        intro y10 s' O' g1 g2 g3
        have hgj:s'.heap.get j=some (R 3 1 true (Dv (done++x::rest))):=by rw[g2.2 j hjl hjO];exact hj
        have hble:decide (done.length+1≤(Dv (done++x::rest)).length)=true:=decide_eq_true (by rw[FD,A8X,A8P];omega)
        have:=hafter s' O' g1 g2 g3 y10
        simp only[Qb,QS,cE,Cj underlying30 HC hltn,hgj,HC,A8S,hble,sj,Db _ _ _ _ hadd,Wg]
        exact this
      rcases h12 with h1 | ⟨h1,h2⟩
      · simp only[QW,Wt,cC,cD,lE,hlt,A9Z,Qa,Qb,QS,h1,QQ,Cj underlying30 HC hltn,Ee,hld,A8S,Wg]
        exact hcall _ (hrest _)
      · simp only[QW,Wt,cC,cD,lE,hlt,A9Z,Qa,Qb,QS,h1,h2,QQ,Cj underlying30 HC hltn,Ee,hld,A8S,Wg]
        exact hcall _ (hrest _)
end
def A0v(s:CO)(O:List Nat)(b:Nat)(v:AV)(l:List Int):Prop:=∃j,v=.slice (some (j,0)) l.length none∧s.heap.get j=some (R 3 1 true (Dv l))∧j<s.next∧j ∉ O∧b≤j
theorem A0v.rd{s:CO}{O:List Nat}{b:Nat}{v:AV}{l:List Int}(h:A0v s O b v l):Cl s v l:=by
 obtain⟨j,rfl,h1,h2,_⟩:=h
 exact .inr ⟨j,0,none,rfl,h2,by rw[h1];exact(D3 (by rw[FD,A8V];exact A8H _)).trans (by rw[A8p,A8m (by rw[FD];exact A8H _)])⟩
section
variable{E:Dw}(hE:Cn E){s:CO}{p:Nat}{S:List Tm}{O:List Nat}(h:DD s p S O)(hsm:S.length<99990)(hg:Fp s O){K:AV→CO→Prop}
include hE h hsm hg
theorem Yn{v:AV}{l:List Int}(hv:Cl s v l)(h0:0<l.length)(hl:l.length≤1000)
  (hK:∀w s' O',DD s' p (Kg S.length S l) O'→Fp s' O'→Eb O s s'→DR O O' s→A0v s' O' s.next w (l.map fun x=>(ix (Kg S.length S l) (Ev S x):Int))→K w s'):
  WF E 28 [.ptr (some (p,0)),v] K s:=by
 refine hE.go A1e (by decide) rfl ?_
 simp only[A7B,vr,vu,Qa,Qb,QS]
 refine oL hE h (by omega) ?_
 simp only[vv,Qb,QS]
 refine Oy hE hv h0 (by omega) ?_
 generalize hs:s.next=b
 have hgj:(ext s [R 3 1 false [],R 3 1 true (Dv l)]).heap.get (nid b 1)=some (R 3 1 true (Dv ([]++l))):=by rw[CR hs (by simp)];rfl
 have hnx:(ext s [R 3 1 false [],R 3 1 true (Dv l)]).next=b+2:=by rw[Ce,hs,CN];rfl
 have hlt:=h.lt
 have hg1:=hg.2.1
 simp only[vw,DQ underlying30,Qb,QS]
 refine bA hE hsm hl (s0:=s) (O:=O) (j:=nid b 1) _ _ (by rw[CN];omega) hg.2.1 l [] S O _ _ _ _ _ (.inl rfl) (h.old Ci) (hg.old Ci) (Ci.frO O) (DR.refl O s) hgj (by rw[hnx,CN];omega) (fun hm=>by have:=hlt _ hm;rw[CN]at this;omega) rfl ?_
 intro s2 O2 y5 y6 y9 y10 y11 g1 g2 g3 g4 g5 g6 g7
 simp only[QS]
 rw[if_pos trivial]
 simp only[lD,Qb,QS]
 refine hK _ _ _ g1 g2 g3 g4 ⟨nid b 1,by rw[A8c],by rw[g5];rfl,g6,g7,by rw[CN];omega⟩
theorem A3Y{d k:Int}(hK:∀s' O',DD s' p (push (Kg S.length S [d,k]) (.sel (Ev S d) (Ev S k))) O'→Fp s' O'→Eb O s s'→DR O O' s→K (iv (ix (push (Kg S.length S [d,k]) (.sel (Ev S d) (Ev S k))) (.sel (Ev S d) (Ev S k)):Int)) s'):
  WF E 13 [.ptr (some (p,0)),iv d,iv k] K s:=by
 have hm:∀x∈([d,k]:List Int),Ev S x∈Kg S.length S [d,k]:=Yo rfl
 have hlt:(Kg S.length S [d,k]).length<100000:=by
  rcases Sl (n:=S.length) (S:=S) [d,k]with e | e<;>rw[e]
  ·omega
  ·have:=Ic (S:=S) (u:=EK);omega
 refine hE.go A1U (by decide) rfl ?_
 generalize hs:s.next=b
 have hs0:s=ext s []:=(Ca s).symm
 have hrd:Cl (ext s [R 3 1 false (Dv [d,k])]) (.slice (some (nid b 0,0)) 2 (some 2)) [d,k]:=.inr ⟨nid b 0,0,some 2,rfl,by rw[Ce,hs,CN,CN];simp,by rw[CR hs (by simp)];exact D3 (A8H _)⟩
 have hth:=fun(K:AV→CO→Prop)=>Yn (K:=K) hE (h.old (Ci (os:=[R 3 1 false (Dv [d,k])]))) hsm (hg.old Ci) hrd (by simp) (by simp)
 rw[hs0]
 simp only[A6r,uo,uq,ur,I6,bc,QQ,EO,hs,Qa,Qb,QS,Wg]
 refine hth _ fun w s' O' g1 g2 g3 g4 g5=>?_
 have hf:Eb O s s':=(Ci.frO O).trans g3 (DR.refl O s)
 have hgr:DR O O' s:=DR.trans (DR.refl O s) g4 (by rw[Ce,CN];omega)
 have hpa:Fc s' (Kg S.length S [d,k]) [Ev S d,Ev S k] w:=Cl.parts (l:=[Ev S d,Ev S k]) g5.rd (by simp)
 simp only[QS]
 refine Nh hE g1 hlt (DL.refl _ _) (.sel (Ev S d) (Ev S k)) (fun k hk=>?_) trivial hpa fun s2 O2 k1 k2 k3=>?_
 ·simp only[Tm.kids,A8I,A8K,A9V]at hk
  rcases hk with rfl | rfl<;>exact hm _ (by simp)
 ·simp only[QS]
  exact hK _ _ k1 (g2.step k2 k3) (hf.trans k2 hgr) (hgr.trans k3 hf.1)
theorem A3h{d k a:Int}(hK:∀s' O',DD s' p (push (Kg S.length S [d,k,a]) (.upd (Ev S d) (Ev S k) (Ev S a))) O'→Fp s' O'→Eb O s s'→DR O O' s→K (iv (ix (push (Kg S.length S [d,k,a]) (.upd (Ev S d) (Ev S k) (Ev S a))) (.upd (Ev S d) (Ev S k) (Ev S a)):Int)) s'):
  WF E 10 [.ptr (some (p,0)),iv d,iv k,iv a] K s:=by
 have hm:∀x∈([d,k,a]:List Int),Ev S x∈Kg S.length S [d,k,a]:=Yo rfl
 have hlt:(Kg S.length S [d,k,a]).length<100000:=by
  rcases Sl (n:=S.length) (S:=S) [d,k,a]with e | e<;>rw[e]
  ·omega
  ·have:=Ic (S:=S) (u:=EK);omega
 refine hE.go A1R (by decide) rfl ?_
 generalize hs:s.next=b
 have hs0:s=ext s []:=(Ca s).symm
 have hrd:Cl (ext s [R 3 1 false (Dv [d,k,a])]) (.slice (some (nid b 0,0)) 3 (some 3)) [d,k,a]:=.inr ⟨nid b 0,0,some 3,rfl,by rw[Ce,hs,CN,CN];simp,by rw[CR hs (by simp)];exact D3 (A8H _)⟩
 have hth:=fun(K:AV→CO→Prop)=>Yn (K:=K) hE (h.old (Ci (os:=[R 3 1 false (Dv [d,k,a])]))) hsm (hg.old Ci) hrd (by simp) (by simp)
 rw[hs0]
 simp only[A4H,uY,uZ,ua,I6,bc,QQ,Ll,hs,Qa,Qb,QS,Wg]
 refine hth _ fun w s' O' g1 g2 g3 g4 g5=>?_
 have hf:Eb O s s':=(Ci.frO O).trans g3 (DR.refl O s)
 have hgr:DR O O' s:=DR.trans (DR.refl O s) g4 (by rw[Ce,CN];omega)
 have hpa:Fc s' (Kg S.length S [d,k,a]) [Ev S d,Ev S k,Ev S a] w:=Cl.parts (l:=[Ev S d,Ev S k,Ev S a]) g5.rd (by simp)
 simp only[QS]
 refine Nh hE g1 hlt (DL.refl _ _) (.upd (Ev S d) (Ev S k) (Ev S a)) (fun k hk=>?_) trivial hpa fun s2 O2 k1 k2 k3=>?_
 ·simp only[Tm.kids,A8I,A8K,A9V]at hk
  rcases hk with rfl | rfl | rfl<;>exact hm _ (by simp)
 ·simp only[QS]
  exact hK _ _ k1 (g2.step k2 k3) (hf.trans k2 hgr) (hgr.trans k3 hf.1)
end
end
end Go.Proofs.YtoaaclpjkelofaaGreatDoor.Am
set_option linter.all false
namespace Go.Proofs.YtoaaclpjkelofaaGreatDoor.Am
open Go Go.Proofs
noncomputable section
open Tryz
theorem QI.kidS{S:List Tm}(h:QI S)(t:Tm)(ht:t∈S)(k:Tm)(hk:k∈t.kids):k∈S:=(h.kid ht hk).1
theorem Jc{i:Int}(h:i64 i):(Gt i).length≤21:=by
 unfold Gt
 rw[A8c]
 exact Go.Lib.itoa_length_le i h.1 (by have:=h.2;omega)
theorem Oa{E:Dw}(hE:Cn E){s:CO}(hg:Ja s 1 FE=true){i:Int}(h:i64 i){K:AV→CO→Prop}(hK:K (.str (Gt i)) s):WF E 59 [iv i] K s:=by
 refine WF.native (hE.tab _ _ _ (.str (Gt i),s) ?_) hK
 have h2:Ig 59 [iv i] s=Ma s [iv i]:=by
  have e:Ig 59 [iv i] s=(match Ma s [iv i]with | some p=>some p | none=>none):=rfl
  rw[e]
  cases Ma s [iv i]<;>rfl
 rw[h2]
 simp only[Ma,Do h,hg,Bool.and_self,CU,cond_true]
theorem Oj(xs:List AV)(s:CO):Ig 86 xs s=LA s xs:=by
 have h2:Ig 86 xs s=LA s xs:=rfl
 exact h2
def ID:Tm→List Nat
 | .var i=>120::Gt i
 | .bnd i=>98::Gt i
 | .con n=>(Tm.con n).ktext
 | .sel d k=>[40,103,101,116]++(32::ID d)++(32::ID k)++[41]
 | .upd d k a=>[40,115,101,116]++(32::ID d)++(32::ID k)++(32::ID a)++[41]
def Iv (t:Tm):List Nat:=if 4096<t.sz then []else ID t
theorem ez:((List.range 13).all fun n=>Nat.ble (Tm.con n).ktext.length 20)=true:=by kernel_rfl
theorem JC{S:List Tm}(hS:QI S):∀t,t∈S→t.sz≤4096→(ID t).length≤30 * t.sz
 | .var i,ht,_=>by have:=Jc (i:=i) (hS.ok _ ht);simp only[ID,Tm.sz,A8P];omega
 | .bnd i,ht,_=>by have:=Jc (i:=i) (hS.ok _ ht).2;simp only[ID,Tm.sz,A8P];omega
 | .con n,ht,_=>by
  have hn:n<13:=hS.ok _ ht
  have:=A8w.1 ez n (List.mem_range.2 hn)
  simp only[ID,Tm.sz]
  have h2:(Tm.con n).ktext.length≤20:=by simpa[A8Q]using this
  omega
 | .sel d k,ht,h=>by
  simp only[Tm.sz]at h ⊢
  have h1:=JC hS d (hS.kidS _ ht d (by simp[Tm.kids])) (by omega)
  have h2:=JC hS k (hS.kidS _ ht k (by simp[Tm.kids])) (by omega)
  simp only[ID,A8X,A8P,A8b]
  omega
 | .upd d k a,ht,h=>by
  simp only[Tm.sz]at h ⊢
  have h1:=JC hS d (hS.kidS _ ht d (by simp[Tm.kids])) (by omega)
  have h2:=JC hS k (hS.kidS _ ht k (by simp[Tm.kids])) (by omega)
  have h3:=JC hS a (hS.kidS _ ht a (by simp[Tm.kids])) (by omega)
  simp only[ID,A8X,A8P,A8b]
  omega
theorem oH{t k:Tm}(h:k∈t.kids)(hs:t.sz≤4096):k.sz≤4096:=by
 cases t<;>simp only[Tm.kids,A8I,A8K,A9V]at h
 ·rcases h with rfl | rfl<;>simp only[Tm.sz]at hs<;>omega
 ·rcases h with rfl | rfl | rfl<;>simp only[Tm.sz]at hs<;>omega
theorem GY{x y:List Nat}(h:x.length+y.length≤1000000000):Ch prog .add 9 (.str x) (.str y)=some (.str (x++y)):=by
 show CU (Nat.ble (x.length+y.length) 1152921504606846976) _=_
 rw[EA (by omega)];rfl
def Ej(l:List (List Nat)):List AV:=l.map AV.str
theorem qW:FU prog 9 1=true:=by kernel_rfl
theorem eD:EE prog 28=true:=by kernel_rfl
theorem LP(x:List Nat):Cd prog 28 1 (zipIdx [0] [.str x])=some (R 9 1 false [.str x]):=by kernel_rfl
theorem dj{s:CO}{j:Nat}{x:List Nat}(h:s.heap.get j=some (R 9 1 false [.str x])):FT prog s 9 1 (.slice (some (j,0)) 1 (some 1))=some (1,[.str x]):=by
 show(Pr _ j 0 1 1).bind _=_
 rw[Jo (l:=[.str x]) (by rw[Et,h];exact D3 (A8H _))]
 rfl
theorem hG{s:CO}{i j:Nat}{x y:List Nat}(hi:s.heap.get i=some (R 9 1 false [.str x]))(hj:s.heap.get j=some (R 9 1 false [.str y])):
  DE prog s [28,28] [.slice (some (i,0)) 1 (some 1),.slice (some (j,0)) 1 (some 1)]=some (.slice (some (s.next,0)) 2 none,newObj s (R 9 1 true [.str x,.str y])):=by
 have hsrc:=dj hj
 have hall:C3 [AV.str y]=true:=rfl
 have h1:Nat.ble ((1+1) * 16) 1099511627776=true:=rfl
 have h2:Nat.ble (1+1) 1099511627776=true:=rfl
 have h3:Nat.ble (1+1) 1=false:=rfl
 have h4:Di s i 0 (1 * 1)=some [.str x]:=by rw[Et,hi];rfl
 simp only[DE,underlying28,A3b,A6q,Option.bind_some,hsrc,eD,hall,h1,h2,appTo,JS,h3,h4,cond_false,FB,qW,EB,Bool.and_self]
 rfl
theorem qB{s:CO}{i:Nat}{l:List (List Nat)}(hi:s.heap.get i=some (R 9 1 true (Ej l)))(hl:i<s.next):HD 9 1 s (.slice (some (i,0)) l.length none) l.length (Ej l) [i]:=
 .inr ⟨i,none,rfl,⟨by simp[Ej],.inr ⟨rfl,A8T _,hl,(fun q hq=>absurd hq (by simp)),_,hi,⟨rfl,fun k u hk=>by show(Vw _).get k=_;rw[Vx];exact hk⟩,rfl,rfl,rfl,rfl,rfl⟩⟩,rfl⟩
theorem Ud{s:CO}{v:AV}{l:List (List Nat)}{OB:List Nat}(hb:HD 9 1 s v l.length (Ej l) OB)(x:List Nat)(hl:l.length≤1000000):
  ∃v2 s2 OB2,DE prog (newObj s (R 9 1 false [.str x])) [28,28] [v,.slice (some (s.next,0)) 1 (some 1)]=some (v2,s2)∧HD 9 1 s2 v2 (l++[x]).length (Ej (l++[x])) OB2∧s2.next=s.next+2∧(∀j,j<s.next→j ∉ OB→s2.heap.get j=s.heap.get j)∧(∀j∈OB2,j∈OB∨s.next≤j):=by
 have hnx:(ext s [R 9 1 false [.str x]]).next=s.next+1:=by rw[Ce,CN];rfl
 have hbuf2:=hb.frame (s':=ext s [R 9 1 false [.str x]]) (by rw[hnx];omega) fun j hj=>Cm (hb.lt j hj)
 obtain⟨v2,s3,OB2,happ,hb2,hn2,hf2,hO2,hsl⟩:=hbuf2.append (xt:=28) (m:=1) underlying28 A3b A6q (by omega) eD qW (by omega) (dj (j:=nid s.next 0) (by rw[CR rfl (by simp)];rfl)) rfl rfl (by omega) (by omega)
 rw[hnx]at hn2 hf2 hO2
 have hne:newObj s (R 9 1 false [.str x])=ext s [R 9 1 false [.str x]]:=by
  have:=H7 s [] (R 9 1 false [.str x])
  rw[Ca]at this;exact this
 rw[← hne,LH]at happ
 refine⟨v2,s3,OB2,happ,?_,by omega,fun j hj hB=>by rw[hf2 j (by omega) hB,Cm (by omega)],fun j hj=>(hO2 j hj).imp id fun h=>by omega⟩
 rw[A8X,show Ej (l++[x])=Ej l++[.str x]from by simp[Ej]]
 exact hb2
end
end Go.Proofs.YtoaaclpjkelofaaGreatDoor.Am
set_option linter.all false
set_option maxHeartbeats 1000000
namespace Go.Proofs.YtoaaclpjkelofaaGreatDoor.Am
open Go Go.Proofs
noncomputable section
open Tryz
theorem dQ{i o n k:Nat}{c:Option Nat}(hk:k<n):CQ prog 30 (.slice (some (i,o)) n c) (iv (k:Int))=some (.ptr (some (i,o+k))):=by
 have:=Cj (P:=prog) (i:=i) (o:=o) (cap:=c) underlying30 HC hk
 rwa[A8S]at this
set_option maxRecDepth 20000 in
theorem Ue{E:Dw}(hE:Cn E){p:Nat}{S:List Tm}{O:List Nat}{kids:List Tm}{sB:CO}(h:DD sB p S O)(hg:Fp sB O)(h3:kids.length≤3)(h0:0<kids.length)
    (hk:∀t∈kids,Iv t=ID t∧∀ (s:CO) (K:AV→CO→Prop),DD s p S O→Fp s O→(∀s',DL s.next s s'→K (.str (Iv t)) s')→WF E 52 [.ptr (some (p,0)),iv (ix S t:Int)] K s)
    {bx wb:Nat} {ec:List AV} {w:List Nat} (hbx:sB.heap.get bx=some (R 71 0 false ec)) (hbl:bx<sB.next) (hec:∀k u,kids[k]? = some u→ec[2+k]? = some (iv (ix S u:Int)))
    (hwb:sB.heap.get wb=some (R 9 1 false [.str w])) (hwl:wb<sB.next)
    (a1 a2 a4 a6 a7 a8 a9 a10 a11 a12 a16:AV) {Q:Da→Prop} {marks:List Nat}
    (hend:∀ (y6 y16 v5:AV) s' OB,DL sB.next sB s'→HD 9 1 s' v5 (kids.length+1) (Ej (w::kids.map ID)) OB →
      Cs 1 Q ⟨.exit 1,[.ptr (some (p,0)),a1,a2,.ptr (some (bx,0)),a4,v5,y6,a7,a8,a9,a10,a11,a12,.slice (some (bx,2)) kids.length (some 3),iv (kids.length:Int),iv (kids.length:Int),y16],marks,s'⟩):
    WC E none (Ck.loop Kr) (Cs 1 Q) [.ptr (some (p,0)),a1,a2,.ptr (some (bx,0)),a4,.slice (some (wb,0)) 1 (some 1),a6,a7,a8,a9,a10,a11,a12,.slice (some (bx,2)) kids.length (some 3),iv (kids.length:Int),iv 0,a16] marks sB:=by
  have hread:∀ (s2:CO),DL sB.next sB s2→∀k u,kids[k]? = some u→DY (s2.heap.get bx) (2+k)=some (iv (ix S u:Int)):=fun s2 ho k u hu=>by
    rw[ho.2 bx hbl,hbx,Lc];exact hec k u hu
  have key:∀ (d k:Nat) (s2:CO) (v5:AV) OB (b6 b16:AV),d+k=kids.length→1≤k→DL sB.next sB s2→HD 9 1 s2 v5 (k+1) (Ej (w::(kids.take k).map ID)) OB→(∀j∈OB,sB.next≤j) →
      WC E none (Ck.loop Kr) (Cs 1 Q) [.ptr (some (p,0)),a1,a2,.ptr (some (bx,0)),a4,v5,b6,a7,a8,a9,a10,a11,a12,.slice (some (bx,2)) kids.length (some 3),iv (kids.length:Int),iv (k:Int),b16] marks s2:=by
    intro d
    induction d with
    | zero =>
      intro k s2 v5 OB b6 b16 hd _ ho hb hO
      have hk':k=kids.length:=by omega
      subst hk'
      refine WC.loop' ?_
      have hlt:¬ ((kids.length:Int)<(kids.length:Int)):=by omega
      rw[A8m (A8H _)]at hb
      simp only[Kr,VF,Qa,Qb,QS,hlt,A9a]
      exact hend _ _ _ _ _ ho hb
    | succ d ih =>
      intro k s2 v5 OB b6 b16 hd hk1 ho hb hO
      have hkl:k<kids.length:=by omega
      obtain⟨u,hu⟩:∃u,kids[k]? = some u:=⟨_,A8O hkl⟩
      have hum:=A8a hu
      have hlt:(k:Int)<(kids.length:Int):=by omega
      have hadd:i64 ((k:Int)+1):=by unfold i64;omega
      have hld:=hread s2 ho k u hu
      refine WC.loop' ?_
      obtain⟨W,hW⟩:∃W,W=Ck.loop Kr:=⟨_,rfl⟩
      rw[← hW]
      simp only[Kr,VF,ZN,ZO,Qa,Qb,QS,hlt,A9Z,dQ hkl,Ee,hld,Wg]
      refine(hk u hum).2 s2 _ (h.old ho) (hg.old ho) fun s3 ho3=>?_
      rw[(hk u hum).1]
      have hb3:=hb.frame (s':=s3) ho3.1 fun j hj=>ho3.2 j (hb.lt j hj)
      have hbl:=hb.lt
      have hso:=ho.1
      have hln:(w::(kids.take k).map ID).length=k+1:=by simp;omega
      rw[← hln]at hb3
      obtain⟨v2,s4,OB2,e1,e2,e3,e4,e5⟩:=Ud hb3 (ID u) (by omega)
      have ho34:=ho3.1
      have:=ih (k+1) s4 v2 OB2 (iv (ix S u:Int)) (.bool true) (by omega) (by omega) ⟨by omega,fun j hj=>?_⟩ (by
          have hl2:(w::(kids.take k).map ID++[ID u]).length=k+1+1:=by simp;omega
          rw[hl2]at e2
          rw[List.take_succ_eq_append_getElem hkl,show kids[k]=u from by rw[A8O hkl]at hu;injection hu,A8r]
          exact e2) (fun j hj=>?_)
      · rw[← hW,show((k+1:Nat):Int)=(k:Int)+1 from by omega]at this
        simp only[Qb,QS,LP,e1,ZP,Db _ _ _ _ hadd,Wg]
        exact this
      · rw[e4 j (by omega) (fun hm=>by have:=hO j hm;omega),ho3.2 j (by omega),ho.2 j hj]
      · exact(e5 j hj).elim (hO j) (fun hl=>by omega)
  obtain⟨u,hu⟩:∃u,kids[0]? = some u:=⟨_,A8O h0⟩
  have hum:=A8a hu
  have hlt:(0:Int)<(kids.length:Int):=by omega
  have hld:=hread sB (DL.refl _ _) 0 u hu
  have hix0:=dQ (i:=bx) (o:=2) (c:=some 3) h0
  have hadd:i64 ((0:Int)+1):=by unfold i64;omega
  refine WC.loop' ?_
  obtain⟨W,hW⟩:∃W,W=Ck.loop Kr:=⟨_,rfl⟩
  rw[← hW]
  have hix0:CQ prog 30 (.slice (some (bx,2)) kids.length (some 3)) (iv 0)=some (.ptr (some (bx,2+0))):=hix0
  simp only[Kr,VF,ZN,ZO,Qa,Qb,QS,hlt,A9Z,hix0,Ee,hld,Wg,Nat.reduceAdd]
  refine(hk u hum).2 sB _ h hg fun s3 ho3=>?_
  rw[(hk u hum).1]
  have hn3:=ho3.1
  have hhead:=hG (s:=newObj s3 (R 9 1 false [.str (ID u)])) (i:=wb) (j:=s3.next) (x:=w) (y:=ID u) (by rw[DH,if_neg (by omega),ho3.2 wb hwl];exact hwb) (by rw[DH,if_pos rfl])
  have hs4:∀j,j<s3.next→(newObj (newObj s3 (R 9 1 false [.str (ID u)])) (R 9 1 true [.str w,.str (ID u)])).heap.get j=s3.heap.get j:=fun j hj=>by
    rw[DH,if_neg (by show j≠s3.next+1;omega),DH,if_neg (by omega)]
  have:=key (kids.length - 1) 1 (newObj (newObj s3 (R 9 1 false [.str (ID u)])) (R 9 1 true [.str w,.str (ID u)])) (.slice (some (s3.next+1,0)) 2 none) [s3.next+1] (iv (ix S u:Int)) (.bool true) (by omega) (A8H _) ⟨A8Z hn3 (by show s3.next≤s3.next+1+1;omega),fun j hj=>by rw[hs4 j (by omega),ho3.2 j hj]⟩ (by
      rw[show kids.take 1=[u]from by rw[List.take_succ_eq_append_getElem h0,show kids[0]=u from by rw[A8O h0]at hu;injection hu];rfl]
      exact qB (l:=[w,ID u]) (by rw[DH];exact if_pos rfl) (A8k _)) (fun j hj=>by rw[A9E.1 hj];omega)
  rw[← hW]at this
  simp only[Qb,QS,LP,hhead,ZP,Db _ _ _ _ hadd,Wg]
  exact this
set_option maxRecDepth 20000 in
theorem WH{E:Dw}(hE:Cn E){p:Nat}{S:List Tm}{O:List Nat}:∀ (n:Nat)(t:Tm),ix S t<n→t∈S→∀ (s:CO)(K:AV→CO→Prop),DD s p S O→Fp s O→(∀s',DL s.next s s'→K (.str (Iv t)) s') →
    WF E 52 [.ptr (some (p,0)),iv (ix S t:Int)] K s:=by
  intro n
  induction n with
  | zero=>intro t h;omega
  | succ n ihn =>
    intro t hn ht s K h hg hK
    obtain⟨c0,c1,c2,c3,c4,c5,c6,hc,d0,d1,d2,d3,d4,d5,d6⟩:=t.cells7 (h.ok.ok t ht)
    refine hE.go A1w (by decide) rfl ?_
    simp only[A7T,xg,xh,Qa,Qb,QS]
    refine Wl hE h ht fun r s1 ho1 he=>?_
    obtain⟨m,rfl,_,_⟩:=he
    have hent:FX S t m=[iv t.kind,iv t.id,iv (part S t 0),iv (part S t 1),iv (part S t 2),.str t.ktext,c0,c1,c2,c3,c4,c5,c6,iv (t.kids.length:Int),iv (t.sz:Int),.map (some m)]:=by
      simp only[FX,Em,hc,A8e,A8i]
    rw[hent]
    have hg1:=hg.old ho1
    have h1:=h.old ho1
    have hend:∀s',DL s1.next s1 s'→K (.str (Iv t)) s':=fun s' h'=>hK s' (ho1.trans (h'.mono ho1.1))
    generalize hs1:s1.next=b at hend
    have hs10:s1=ext s1 []:=(Ca s1).symm
    have hxo:∀os,DL b s1 (ext s1 os):=fun os=>by rw[← hs1];exact Ci
    rw[hs10]
    by_cases hz:4096<t.sz
    · have hd : decide ((4096 : Int) < (t.sz : Int)) = true := decide_eq_true (by omega)
      have he:Iv t=[]:=if_pos hz
      rw[he]at hend
      simp only[Qb,QS,hs1,qX,TD,d0,d1,d2,d3,d4,d5,d6,li,I6,Zr,Ee,hd,Wg,Nat.reduceAdd]
      simp only[xi,Qb,QS]
      exact hend _ (hxo _)
    · have hd : decide ((4096 : Int) < (t.sz : Int)) = false := decide_eq_false (by omega)
      have he:Iv t=ID t:=if_neg hz
      rw[he]at hend
      simp only[Qb,QS,hs1,qX,TD,d0,d1,d2,d3,d4,d5,d6,li,I6,Zr,Ee,hd,Wg,Nat.reduceAdd]
      cases t with
      | var i =>
        have hi:i64 i:=h.ok.ok _ ht
        have hil:=Jc hi
        simp only[Tm.kind,Tm.id,TR,TS,TT,xl,Qb,QS,hs1,OU,OR,Zp,Ee,Wg]
        refine Oa hE (by rw[Ec (Cm hg1.2.1)];exact hg1.1) hi ?_
        simp only[QS,GY (x:=[120]) (y:=Gt i) (by simp;omega)]
        exact hend _ (hxo _)
      | bnd i =>
        have hi:i64 i:=(h.ok.ok _ ht).2
        have hil:=Jc hi
        simp only[Tm.kind,Tm.id,TR,TS,TT,Wx,xm,Qb,QS,hs1,OU,OR,Zp,Ee,Int.reduceEq,Wg]
        refine Oa hE (by rw[Ec (Cm hg1.2.1)];exact hg1.1) hi ?_
        simp only[QS,GY (x:=[98]) (y:=Gt i) (by simp;omega)]
        exact hend _ (hxo _)
      | con k =>
        simp only[Tm.kind,Tm.id,TR,TS,TT,Wx,VE,lg,Qb,QS,hs1,OU,OR,A2x,Ee,qZ,Int.reduceEq,Wg]
        exact hend _ (hxo _)
      | sel d k =>
        simp only[Tm.kind,Tm.id,TR,TS,TT,Wx,VE,ZK,lh,ZL,ZM,Qb,QS,hs1,OU,Zq,OR,VP,Ee,Int.reduceEq,LP,p5 (Z6 (Tm.sel d k)),DQ underlying30,Wg,Nat.reduceAdd,Nat.reduceLT]
        have hkz:∀u∈(Tm.sel d k).kids,Iv u=ID u∧∀ (s:CO) (K:AV→CO→Prop),DD s p S O→Fp s O→(∀s',DL s.next s s'→K (.str (Iv u)) s')→WF E 52 [.ptr (some (p,0)),iv (ix S u:Int)] K s:=fun u hu =>
          ⟨if_neg (by have:=oH hu (by omega);omega),ihn u (by have:=(h.ok.kid ht hu).2;omega) (h.ok.kid ht hu).1⟩
        have hlen:=JC h.ok _ ht (by omega)
        refine Ue hE (h1.old (Ci (s:=s1))) (hg1.old (Ci (s:=s1))) (by simp[Tm.kids]) (by simp[Tm.kids]) hkz (bx:=nid b 0) (wb:=nid b 1) (w:=[40,103,101,116]) (by rw[CR hs1 (by simp)];rfl) (by rw[Ce,hs1,CN,CN];simp) (fun j u hu=>?_) (by rw[CR hs1 (by simp)];rfl) (by rw[Ce,hs1,CN,CN];simp) _ _ _ _ _ _ _ _ _ _ _ (fun y6 y16 v5 s' OB ho' hb'=>?_)
        · have hj3:j<3:=by
            rcases A8N j (Tm.sel d k).kids.length with h' | h'
            · have:=h';simp only[Tm.kids,A8P,A8b]at this;omega
            · rw[A8W h']at hu;cases hu
          have hpk:part S (Tm.sel d k) j=(ix S u:Int):=by unfold part;rw[hu]
          have:j=0∨j=1∨j=2:=by omega
          rcases this with rfl | rfl | rfl<;>simp[hpk]
        · simp only[QS]
          rw[if_pos trivial]
          rcases hb'.row with⟨_,hz0,_⟩ | ⟨j,r,rfl,hjO,hjr,hh⟩
          · omega
          have hld:EV (s'.heap.get j) 0 ((Tm.sel d k).kids.length+1)=some (Ej ([40,103,101,116]::(Tm.sel d k).kids.map ID)):=by
            rw[hjr,H6 hh (by simp[Ej]),A8p,A8m (by simp[Ej])]
          have hj:LA s' [.slice (some (j,0)) ((Tm.sel d k).kids.length+1) none,.str [32]]=some (.str (Fa ([40,103,101,116]::(Tm.sel d k).kids.map ID) [32]),s'):=by
            have hst:∀l:List (List Nat),Im (Ej l)=some l:=fun l=>by
              induction l with
              | nil=>rfl
              | cons x l ih=>show(Im (Ej l)).bind _=_;rw[ih];rfl
            show(Di s' j 0 _).bind _=_
            rw[Et,hld,Option.bind_some,hst,Option.bind_some]
            have hle:(Fa ([40,103,101,116]::(Tm.sel d k).kids.map ID) [32]).length≤1000000:=by
              have:Fa ([40,103,101,116]::(Tm.sel d k).kids.map ID) [32]++[41]=ID (Tm.sel d k):=by simp[Fa,El,Tm.kids,ID]
              have h2:=congrArg List.length this
              rw[A8X]at h2
              omega
            rw[Ez,EA (A8Z hle (by omega:1000000≤1000000000000)),EA (show(Tm.sel d k).kids.length+1≤1000000 by simp[Tm.kids])]
            rfl
          have hfin:Fa ([40,103,101,116]::(Tm.sel d k).kids.map ID) [32]++[41]=ID (Tm.sel d k):=by simp[Fa,El,Tm.kids,ID]
          have hadl:(Fa ([40,103,101,116]::(Tm.sel d k).kids.map ID) [32]).length+[41].length≤1000000000:=by
            have h2:=congrArg List.length hfin
            rw[A8X]at h2
            omega
          simp only[ZQ,Qb,QS]
          refine WF.native (hE.tab _ _ _ _ (by rw[Oj];exact hj)) ?_
          simp only[QS,GY hadl,hfin]
          exact hend _ ((hxo _).trans (ho'.mono (by rw[Ce,hs1,CN];omega)))
      | upd d k a =>
        simp only[Tm.kind,Tm.id,TR,TS,TT,Wx,VE,ZK,ZL,ZM,Qb,QS,hs1,OU,Zq,OR,VP,Ee,Int.reduceEq,LP,p5 (Z6 (Tm.upd d k a)),DQ underlying30,Wg,Nat.reduceAdd,Nat.reduceLT]
        have hkz:∀u∈(Tm.upd d k a).kids,Iv u=ID u∧∀ (s:CO) (K:AV→CO→Prop),DD s p S O→Fp s O→(∀s',DL s.next s s'→K (.str (Iv u)) s')→WF E 52 [.ptr (some (p,0)),iv (ix S u:Int)] K s:=fun u hu =>
          ⟨if_neg (by have:=oH hu (by omega);omega),ihn u (by have:=(h.ok.kid ht hu).2;omega) (h.ok.kid ht hu).1⟩
        have hlen:=JC h.ok _ ht (by omega)
        refine Ue hE (h1.old (Ci (s:=s1))) (hg1.old (Ci (s:=s1))) (by simp[Tm.kids]) (by simp[Tm.kids]) hkz (bx:=nid b 0) (wb:=nid b 1) (w:=[40,115,101,116]) (by rw[CR hs1 (by simp)];rfl) (by rw[Ce,hs1,CN,CN];simp) (fun j u hu=>?_) (by rw[CR hs1 (by simp)];rfl) (by rw[Ce,hs1,CN,CN];simp) _ _ _ _ _ _ _ _ _ _ _ (fun y6 y16 v5 s' OB ho' hb'=>?_)
        · have hj3:j<3:=by
            rcases A8N j (Tm.upd d k a).kids.length with h' | h'
            · have:=h';simp only[Tm.kids,A8P,A8b]at this;omega
            · rw[A8W h']at hu;cases hu
          have hpk:part S (Tm.upd d k a) j=(ix S u:Int):=by unfold part;rw[hu]
          have:j=0∨j=1∨j=2:=by omega
          rcases this with rfl | rfl | rfl<;>simp[hpk]
        · simp only[QS]
          rw[if_pos trivial]
          rcases hb'.row with⟨_,hz0,_⟩ | ⟨j,r,rfl,hjO,hjr,hh⟩
          · omega
          have hld:EV (s'.heap.get j) 0 ((Tm.upd d k a).kids.length+1)=some (Ej ([40,115,101,116]::(Tm.upd d k a).kids.map ID)):=by
            rw[hjr,H6 hh (by simp[Ej]),A8p,A8m (by simp[Ej])]
          have hj:LA s' [.slice (some (j,0)) ((Tm.upd d k a).kids.length+1) none,.str [32]]=some (.str (Fa ([40,115,101,116]::(Tm.upd d k a).kids.map ID) [32]),s'):=by
            have hst:∀l:List (List Nat),Im (Ej l)=some l:=fun l=>by
              induction l with
              | nil=>rfl
              | cons x l ih=>show(Im (Ej l)).bind _=_;rw[ih];rfl
            show(Di s' j 0 _).bind _=_
            rw[Et,hld,Option.bind_some,hst,Option.bind_some]
            have hle:(Fa ([40,115,101,116]::(Tm.upd d k a).kids.map ID) [32]).length≤1000000:=by
              have:Fa ([40,115,101,116]::(Tm.upd d k a).kids.map ID) [32]++[41]=ID (Tm.upd d k a):=by simp[Fa,El,Tm.kids,ID]
              have h2:=congrArg List.length this
              rw[A8X]at h2
              omega
            rw[Ez,EA (A8Z hle (by omega:1000000≤1000000000000)),EA (show(Tm.upd d k a).kids.length+1≤1000000 by simp[Tm.kids])]
            rfl
          have hfin:Fa ([40,115,101,116]::(Tm.upd d k a).kids.map ID) [32]++[41]=ID (Tm.upd d k a):=by simp[Fa,El,Tm.kids,ID]
          have hadl:(Fa ([40,115,101,116]::(Tm.upd d k a).kids.map ID) [32]).length+[41].length≤1000000000:=by
            have h2:=congrArg List.length hfin
            rw[A8X]at h2
            omega
          simp only[ZQ,Qb,QS]
          refine WF.native (hE.tab _ _ _ _ (by rw[Oj];exact hj)) ?_
          simp only[QS,GY hadl,hfin]
          exact hend _ ((hxo _).trans (ho'.mono (by rw[Ce,hs1,CN];omega)))
end
end Go.Proofs.YtoaaclpjkelofaaGreatDoor.Am
