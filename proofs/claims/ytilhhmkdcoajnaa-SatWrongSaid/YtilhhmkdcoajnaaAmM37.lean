/- The solver's function learn; conditions: its state fits; there is a run of its main loop. -/
import Derived.Test.YtilhhmkdcoajnaaAmM36
import Derived.Test.YtilhhmkdcoajnaaAmM32
set_option linter.unusedVariables false
set_option linter.unusedSimpArgs false
set_option maxRecDepth 16000
namespace Go.Proofs.Ytilhhmkdcoajnaa.Am
open Go Go.Proofs
noncomputable section
theorem Buf.make{ow:Ow}{T:Tag}{s:ASt}{i:Nat}{e:TypeId}{cs:List AV}(h:s.heap.get i=some (mkRow e 1 cs))(hc:cs≠[])(ht:ow i=T)(hi:i<s.next):Buf ow T s (.slice (some (i,0)) cs.length (some cs.length)) cs:=by
  obtain⟨r,h1,h2,h3,h4,h5,h6⟩:=holds_mkRow e 1 cs
  refine .inr ⟨i,0,some cs.length,r,rfl,⟨by rw[h,h1],ht,hi,h5,h3,fun p hp=>?_⟩,fun k u hk=>?_,by rw[h2.1];omega,⟨Nat.le_refl _,by rw[h2.1];omega⟩⟩
  · rw[h6]at hp;cases hp
  · rw[Nat.zero_add]
    exact h2.2 k u hk
def atLev(v:Sv)(y:Int)(q:Int):Bool:=decide (v.level.getD q.natAbs 0=y)
def learnL(v:Sv)(r:Lst):List Int:=match firstI (atLev v r.lev) r.lits 0 with
  | none=>r.hd::r.lits
  | some i=>swapL (r.hd::r.lits) 1 (i+1)
theorem firstI_lt{f:Int→Bool}:∀ {L:List Int}{k i:Nat},firstI f L k=some i→k≤i∧i<k+L.length
  | [],k,i,h=>by cases h
  | x::L,k,i,h=>by
    unfold firstI at h
    split at h
    · injection h with h
      subst h
      simp
    · obtain⟨h1,h2⟩:=firstI_lt h
      simp
      omega
theorem learn_start{ow:Ow}{s s1 s2 s3 s4 s5 s6 s7 s8 s9 s10:ASt}{p:Nat}{x:Sf}{v:Sv}(h:SAt ow s p x v)
    (e1:newObj s (mkRow 44 0 [ptrA p])=s1) (e2:newObj s1 (mkRow 23 0 [.slice none 0 (some 0)])=s2) (e3:newObj s2 (mkRow 3 0 [iv 0])=s3) (e4:newObj s3 (.map [] 0)=s4) (e5:newObj s4 (mkRow 115 0 [.map none])=s5)
    (f6:Box1 s6 (s.next+4) (.map (some (s.next+3)))) (n6:s6.next=s5.next) (o6:∀j,j≠s.next+4→s6.heap.get j=s5.heap.get j)
    (e7:newObj s6 (mkRow 3 1 [iv 0])=s7)
    (f8:Box1 s8 (s.next+1) (.slice (some (s.next+5,0)) 1 (some 1))) (n8:s8.next=s7.next) (o8:∀j,j≠s.next+1→s8.heap.get j=s7.heap.get j)
    (e9:newObj s8 (mkRow 3 0 [iv 0])=s9)
    (f10:Box1 s10 (s.next+6) (iv 0)) (n10:s10.next=s9.next) (o10:∀j,j≠s.next+6→s10.heap.get j=s9.heap.get j):
    ∃ow',LAt ow' s10 p x v s.next v.heat ⟨[],0,[],0,0⟩∧Step (fun _=>False) ow s ow' s10:=by
  have n1:s1.next=s.next+1:=by rw[← e1];rfl
  have n2:s2.next=s.next+2:=by rw[← e2];show s1.next+1=_;omega
  have n3:s3.next=s.next+3:=by rw[← e3];show s2.next+1=_;omega
  have n4:s4.next=s.next+4:=by rw[← e4];show s3.next+1=_;omega
  have n5:s5.next=s.next+5:=by rw[← e5];show s4.next+1=_;omega
  have n7:s7.next=s.next+6:=by rw[← e7];show s6.next+1=_;omega
  have n9:s9.next=s.next+7:=by rw[← e9];show s8.next+1=_;omega
  have o1:Old s.next s s1:=by rw[← e1];exact Old.new s _
  have o2:Old (s.next+1) s1 s2:=by rw[← e2,← n1];exact Old.new s1 _
  have o3:Old (s.next+2) s2 s3:=by rw[← e3,← n2];exact Old.new s2 _
  have o4:Old (s.next+3) s3 s4:=by rw[← e4,← n3];exact Old.new s3 _
  have o5:Old (s.next+4) s4 s5:=by rw[← e5,← n4];exact Old.new s4 _
  have o7:Old (s.next+5) s6 s7:=by rw[← e7,show s.next+5=s6.next by omega];exact Old.new s6 _
  have o9:Old (s.next+6) s8 s9:=by rw[← e9,show s.next+6=s8.next by omega];exact Old.new s8 _
  have b10:∀j,j<s.next+5→j≠s.next+4→j≠s.next+1→s10.heap.get j=s5.heap.get j:=fun j h1 h2 h3=>by
    rw[o10 j (by omega),o9.2 j (by omega),o8 j h3,o7.2 j (by omega),o6 j h2]
  have old:Old s.next s s10:=⟨by omega,fun j hj=>by
    rw[b10 j (by omega) (by omega) (by omega),o5.2 j (by omega),o4.2 j (by omega),o3.2 j (by omega),o2.2 j (by omega),o1.2 j hj]⟩
  refine⟨fun j=>if j<s.next then ow j else if j=s.next+5 then (p,20,0)else (p,21,0),?_,⟨old.1,fun j hj _=>if_pos hj,fun j hj _=>old.2 j hj⟩⟩
  have st:Step (fun _=>False) ow s (fun j=>if j<s.next then ow j else if j=s.next+5 then (p,20,0)else (p,21,0)) s10:=⟨old.1,fun j hj _=>if_pos hj,fun j hj _=>old.2 j hj⟩
  have t5:(fun j=>if j<s.next then ow j else if j=s.next+5 then (p,20,0)else (p,21,0):Ow) (s.next+5)=(p,20,0):=by show(if _ then _ else if _ then _ else _:Tag)=_;rw[if_neg (by omega),if_pos rfl]
  have r5:s10.heap.get (s.next+5)=some (mkRow 3 1 [iv 0]):=by
    rw[o10 _ (by omega),o9.2 _ (by omega),o8 _ (by omega),← e7,heap_new,if_pos (by omega)]
  refine { sat:=h.keep st (fun _ q=>q.elim),hl:=rfl,sb:=?_,lb:=⟨_,f8.keep (by rw[o10 _ (by omega),o9.2 _ (by omega)]),Buf.make r5 (by simp) t5 (by omega)⟩,vb:=?_,mo:=⟨[],0,?_,rfl⟩,mb:=f6.keep (by rw[o10 _ (by omega),o9.2 _ (by omega),o8 _ (by omega),o7.2 _ (by omega)]),ob:=f10,tg:=fun j h1 h2 h3=>?_,lt:=by omega }
  · have b:Box1 s1 s.next (ptrA p):=by rw[← e1];exact Box1.new
    exact b.keep (by rw[b10 _ (by omega) (by omega) (by omega),o5.2 _ (by omega),o4.2 _ (by omega),o3.2 _ (by omega),o2.2 _ (by omega)])
  · have b:Box1 s3 s2.next (iv 0):=by rw[← e3];exact Box1.new
    rw[n2]at b
    exact b.keep (by rw[b10 _ (by omega) (by omega) (by omega),o5.2 _ (by omega),o4.2 _ (by omega)])
  · rw[b10 _ (by omega) (by omega) (by omega),o5.2 _ (by omega),← e4,heap_new,if_pos (by omega)]
  · show(if _ then _ else if _ then _ else _:Tag)=_
    rw[if_neg (by omega),if_neg h3]
theorem learn_end{E:Env}(hE:Good E){ow:Ow}{s:ASt}{p:Nat}{x:Sf}{v:Sv}{N:Nat}{h:List Int}{r:Lst}(H:LAt ow s p x v N h r){n:Nat}(hn:n≤1000000)(hlev:v.level.length=n+1)(hI:LInv n r){K:List AV→ASt→Prop}{x1 x7 x8 x9 x10 x11 x12 x13 x14 x15 x16 x17 x18 x19 x20:AV}
    (hK:Qb E c67o29 K [] (lvs p N x1 x7 x8 x9 x10 x11 x12 (idxV (firstI (atLev v r.lev) r.lits 0)) x14 x15 x16 x17 x18 x19 x20) s):
    Qb E c67o28 (fun V s'=>Qb E c67o29 K [] V s') [] (lvs p N x1 x7 x8 x9 x10 x11 x12 x13 x14 x15 x16 x17 x18 x19 x20) s:=by
  obtain⟨lv,b1,b2⟩:=H.lb
  obtain⟨g1,g2⟩:=b2.rest Try.underlying23 sz3 (k:=1) (by simp)
  have e1:(ivs (r.hd::r.lits)).drop 1=ivs r.lits:=rfl
  rw[e1]at g2
  have g1':sliceOpnds Try.prog 23 true false false s [lv,iv 1]=some (restV lv 1):=g1
  have hsm:=hI.small
  have hle:=hI.len
  simp only[c67o28,lvs,b1.load ag23,g1',List.take_zero,List.drop_zero,Qa,Qb,Qc,Qd,Qe,Qf,Qg,Qh,Qi,Qj,Qk,Ql,Qm,Qn,true_and,and_true,Qo,Qp,Qq,Qr,Qs,Qt,Qu,Qv,Qw,Qx,Qy,Qz,Ra,Rb,Rc,Rd,Re,Rf,Rg,Rh,Ri,Rj,Rk,Rl,Rm,Ya,Yb,Yc,Rn,Ro,Rp,Yd,Ye,Rq,Rs,Rt,Ru,Rv,Rw,Rx]
  refine(findex_ok hE (f:=atLev v r.lev) (g:=95) (cp:=[.ptr (some (N,0)),.ptr (some (N+2,0))]) (fun q hq=>?_) (by omega) g2).mono ?_
  · exact atlev_ok hE H (by have:=(hI.lits q hq).2;omega) (by omega)
  rintro _ _ ⟨rfl,rfl⟩
  simp only[Qa,Qb,Qc,Qd,Qe,Qf,Qg,Qh,Qi,Qj,Qk,Ql,Qm,Qn,true_and,and_true,Qo,Qp,Qq,Qr,Qs,Qt,Qu,Qv,Qw,Qx,Qy,Qz,Ra,Rb,Rc,Rd,Re,Rf,Rg,Rh,Ri,Rj,Rk,Rl,Rm,Ya,Yb,Yc,Rn,Ro,Rp,Yd,Ye,Rq,Rs,Rt,Ru,Rv,Rw,Rx]
  exact hK
theorem L_o30{E:Env}{K:List AV→ASt→Prop}{ow:Ow}{s:ASt}{p:Nat}{lv:AV}{F:List Int}{N i:Nat}(b1:Box1 s (N+1) lv)(b2:Buf ow (p,20,0) s lv (ivs F))(hi:i+1<F.length)(hl:F.length<1000000000)(ht:ow (N+1)=(p,21,0))(hlt:N+1<s.next){x1 x7 x8 x9 x10 x11 x12 x14 x15 x16 x17 x18 x19 x20:AV}
    (hK:∀s',Box1 s' (N+1) lv→Buf ow (p,20,0) s' lv (ivs (swapL F 1 (i+1)))→Step (· = (p,20,0)) ow s ow s'→s'.next=s.next→K (lvs p N x1 x7 x8 x9 x10 x11 x12 (iv (i:Int)) x14 x15 x16 x17 x18 x19 x20) s'):
    Qb E c67o30 K [] (lvs p N x1 x7 x8 x9 x10 x11 x12 (iv (i:Int)) x14 x15 x16 x17 x18 x19 x20) s:=by
  have e3:=bin_add Try.prog 3 (i:Int) 1 ⟨by omega,by omega⟩
  have e3':((i:Int)+1)=((i+1:Nat):Int):=by omega
  have ga:=getD_get (d:=(0:Int)) hi
  have gb:=getD_get (d:=(0:Int)) (show 1<F.length by omega)
  have i1:=b2.addr Try.underlying23 sz3 (k:=i+1) (by rw[List.length_map];exact hi)
  have i2:=b2.get (t:=3) ag3 (k:=i+1) (get_ivs ga)
  have j1:indexAddrA Try.prog 23 lv (iv 1)=some (addrOf lv 1):=b2.addr Try.underlying23 sz3 (k:=1) (by rw[List.length_map];omega)
  have j2:=b2.get (t:=3) ag3 (k:=1) (get_ivs gb)
  obtain⟨s1,g1,g2,g3,g4⟩:=b2.set (t:=3) sz3 (k:=1) (x:=iv (F.getD (i+1) 0)) (by rw[List.length_map];omega) rfl rfl
  obtain⟨s2,k1,k2,k3,k4⟩:=g2.set (t:=3) sz3 (k:=i+1) (x:=iv (F.getD 1 0)) (by rw[List.length_set,List.length_map];exact hi) rfl rfl
  have b1':Box1 s1 (N+1) lv:=b1.keep (g3.heap _ hlt (by rw[ht];exact tne (by decide)))
  have b1'':Box1 s2 (N+1) lv:=b1'.keep (k3.heap _ (by omega) (by rw[ht];exact tne (by decide)))
  have e:((ivs F).set 1 (iv (F.getD (i+1) 0))).set (i+1) (iv (F.getD 1 0))=ivs (swapL F 1 (i+1)):=by
    unfold swapL ivs
    rw[List.map_set,List.map_set]
  rw[e]at k2
  simp only[c67o30,lvs,b1.load ag23,e3,e3',i1,i2,j1,j2,on2,g1,withV,again_r1,sameA_some,b1'.load ag23,b2.self,k1,Qa,Qb,Qc,Qd,Qe,Qf,Qg,Qh,Qi,Qj,Qk,Ql,Qm,Qn,true_and,and_true,Qo,Qp,Qq,Qr,Qs,Qt,Qu,Qv,Qw,Qx,Qy,Qz,Ra,Rb,Rc,Rd,Re,Rf,Rg,Rh,Ri,Rj,Rk,Rl,Rm,Ya,Yb,Yc,Rn,Ro,Rp,Yd,Ye,Rq,Rs,Rt,Ru,Rv,Rw,Rx]
  exact hK s2 b1'' k2 (g3.trans k3) (by omega)
theorem L_o31{E:Env}{K:List AV→ASt→Prop}{ow:Ow}{s:ASt}{p:Nat}{lv:AV}{y:Int}{F:List Int}{N:Nat}(b1:Box1 s (N+1) lv)(b2:Buf ow (p,20,0) s lv (ivs F))(b3:Box1 s (N+2) (iv y))(ht:∀j,j=N+1∨j=N+2→ow j=(p,21,0)){x1 x7 x8 x9 x10 x11 x12 x13 x14 x15 x16 x17 x18 x19 x20:AV}
    (hK:∀s',Box1 s' (N+1) lv→Box1 s' (N+2) (iv y)→Step (· = (p,21,0)) ow s ow s'→s'.next=s.next→K (lvs p N x1 x7 x8 x9 x10 x11 x12 x13 x14 x15 x16 x17 x18 x19 x20) s'):
    Qb E c67o31 K [] (lvs p N x1 x7 x8 x9 x10 x11 x12 x13 x14 x15 x16 x17 x18 x19 x20) s:=by
  obtain⟨s1,g1,g2,g3,g4⟩:=b1.store (d:=lv) sz23 b2.isCell.1 b2.isCell.2
  have b3':Box1 s1 (N+2) (iv y):=b3.keep (g4 _ (by omega))
  obtain⟨s2,k1,k2,k3,k4⟩:=b3'.store (d:=iv y) sz3 rfl rfl
  simp only[c67o31,lvs,b1.load ag23,b3.load ag3,on2,g1,withV,again_r1,sameA_some,b3'.load ag3,eqA_iv,k1,Qa,Qb,Qc,Qd,Qe,Qf,Qg,Qh,Qi,Qj,Qk,Ql,Qm,Qn,true_and,and_true,Qo,Qp,Qq,Qr,Qs,Qt,Qu,Qv,Qw,Qx,Qy,Qz,Ra,Rb,Rc,Rd,Re,Rf,Rg,Rh,Ri,Rj,Rk,Rl,Rm,Ya,Yb,Yc,Rn,Ro,Rp,Yd,Ye,Rq,Rs,Rt,Ru,Rv,Rw,Rx]
  refine hK s2 (g2.keep (k4 _ (by omega))) k2 ⟨by omega,fun _ _ _=>rfl,fun j hj hm=>?_⟩ (by omega)
  rw[k4 j (fun e=>hm (ht j (.inr e))),g4 j (fun e=>hm (ht j (.inl e)))]
theorem learn_ok{E:Env}(hE:Good E){ow:Ow}{s:ASt}{p:Nat}{x:Sf}{v:Sv}(h:SAt ow s p x v){n:Nat}(hn:n≤1000000)(hf:Fit n v)(hcl:∀c ls b,v.cl c=some (ls,b)→ClsOk n ls){c:Nat}{r:Lst}(hr:LearnR v c ⟨[],0,[],0,0⟩ v.trail.length 0 r):
    WF E 67 [ptrA p,ptrA c] (fun res s'=>∃lv ow' h',res=.tuple [lv,iv r.lev]∧LInv n r∧SAt ow' s' p x (heatV v h')∧h'.length=v.heat.length∧Buf ow' (p,20,0) s' lv (ivs (learnL v r))∧Step (mine p) ow s ow' s') s:=by
  have hptr:∀i,Made.val i .ptr=.ptr (some (i,0)):=fun _=>rfl
  have hmap:∀i,Made.val i .map=.map (some i):=fun _=>rfl
  have hms:∀ (m:Nat) (i:Nat),Made.val i (.slice m)=.slice (some (i,0)) m (some m):=fun _ _=>rfl
  have bl:=bld_one (P:=Try.prog) (t:=23) (v:=iv 0) Try.underlying23 sz3 zr3 rfl rfl
  have hbox:boxA 44 (AV.ptr (some (p,0)))=some (mkRow 44 0 [ptrA p],.ptr):=by simp[boxA,ptrA,AV.cells]
  have eqp:eqA (.ptr (some (p,0))) (.ptr (some (p,0)))=true:=by simp[eqA]
  have hz:=hf.siz
  refine hE.go comp67 (by decide) rfl ?_
  generalize e1:newObj s (mkRow 44 0 [ptrA p])=s1
  have n1:s1.next=s.next+1:=by rw[← e1];rfl
  generalize e2:newObj s1 (mkRow 23 0 [.slice none 0 (some 0)])=s2
  have n2:s2.next=s.next+2:=by rw[← e2];show s1.next+1=_;omega
  generalize e3:newObj s2 (mkRow 3 0 [iv 0])=s3
  have n3:s3.next=s.next+3:=by rw[← e3];show s2.next+1=_;omega
  generalize e4:newObj s3 (.map [] 0)=s4
  have n4:s4.next=s.next+4:=by rw[← e4];show s3.next+1=_;omega
  generalize e5:newObj s4 (mkRow 115 0 [.map none])=s5
  have n5:s5.next=s.next+5:=by rw[← e5];show s4.next+1=_;omega
  have b5:Box1 s5 (s.next+4) (.map none):=by rw[← e5,← n4];exact Box1.new
  obtain⟨s6,g6,f6,n6,o6⟩:=b5.store (d:=.map (some (s.next+3))) (t:=115) sz115 rfl rfl
  generalize e7:newObj s6 (mkRow 3 1 [iv 0])=s7
  have n7:s7.next=s.next+6:=by rw[← e7];show s6.next+1=_;omega
  have o2:Box1 s2 (s.next+1) (.slice none 0 (some 0)):=by rw[← e2,← n1];exact Box1.new
  have b7:Box1 s7 (s.next+1) (.slice none 0 (some 0)):=o2.keep (by
    rw[← e7,heap_new,if_neg (by omega),o6 _ (by omega),← e5,heap_new,if_neg (by omega),← e4,heap_new,if_neg (by omega),← e3,heap_new,if_neg (by omega)])
  obtain⟨s8,g8,f8,n8,o8⟩:=b7.store (d:=.slice (some (s.next+5,0)) 1 (some 1)) (t:=23) sz23 rfl rfl
  generalize e9:newObj s8 (mkRow 3 0 [iv 0])=s9
  have n9:s9.next=s.next+7:=by rw[← e9];show s8.next+1=_;omega
  have b9:Box1 s9 (s.next+6) (iv 0):=by rw[← e9,show s.next+6=s8.next by omega];exact Box1.new
  obtain⟨s10,g10,f10,n10,o10⟩:=b9.store (d:=iv 0) (t:=3) sz3 rfl rfl
  obtain⟨ow1,H,st⟩:=learn_start h e1 e2 e3 e4 e5 f6 n6 o6 e7 f8 n8 o8 e9 f10 n10 o10
  have hlt:=h.lt
  have l8:loadV Try.prog s8 44 (.ptr (some (s.next,0)))=some (ptrA p):=by
    have b:Box1 s1 s.next (ptrA p):=by rw[← e1];exact Box1.new
    refine(b.keep ?_).load ag44
    rw[o8 _ (by omega),← e7,heap_new,if_neg (by omega),o6 _ (by omega),← e5,heap_new,if_neg (by omega),← e4,heap_new,if_neg (by omega),← e3,heap_new,if_neg (by omega),← e2,heap_new,if_neg (by omega)]
  have t8:loadV Try.prog s8 23 (.ptr (some (p,7)))=some x.tr:=by
    refine(h.box.keep (s':=s8) ?_).load (k:=7) rfl ag23
    rw[o8 _ (by omega),← e7,heap_new,if_neg (by omega),o6 _ (by omega),← e5,heap_new,if_neg (by omega),← e4,heap_new,if_neg (by omega),← e3,heap_new,if_neg (by omega),← e2,heap_new,if_neg (by omega),← e1,heap_new,if_neg (by omega)]
  have l9:loadV Try.prog s9 44 (.ptr (some (s.next,0)))=some (ptrA p):=by rw[← l8];exact loadV_eq (by rw[← e9,heap_new,if_neg (by omega)])
  have t9:loadV Try.prog s9 23 (.ptr (some (p,7)))=some x.tr:=by rw[← t8];exact loadV_eq (by rw[← e9,heap_new,if_neg (by omega)])
  have l10:loadV Try.prog s10 44 (.ptr (some (s.next,0)))=some (ptrA p):=by rw[← l9];exact loadV_eq (o10 _ (by omega))
  have t10:loadV Try.prog s10 23 (.ptr (some (p,7)))=some x.tr:=by rw[← t9];exact loadV_eq (o10 _ (by omega))
  have ln:∀s,lenA Try.prog s 23 x.tr=some (iv (v.trail.length:Int)):=fun s=>by
    have:=h.trail.len Try.underlying23 s
    rw[List.length_map]at this
    exact this
  simp only[ptrA]at e1 hbox l8 l9 l10
  have q6:s6.next=s.next+5:=by omega
  have q8:s8.next=s.next+6:=by omega
  simp only[c67,c67o0,c67o1,c67o2,c67o3,c67o4,ptrA,hbox,e1,hptr,n1,alloc23,e2,n2,alloc3s,e3,n3,e4,hmap,n4,alloc115,e5,on2,g6,withV,bl,e7,hms,q6,g8,l8,t8,nilCheck_ptr,fa91_7,ln,e9,q8,g10,again_r1,again_r,sameA_some,l10,t10,eqp,h.trail.self,eqA_iv,Qa,Qb,Qc,Qd,Qe,Qf,Qg,Qh,Qi,Qj,Qk,Ql,Qm,Qn,true_and,and_true,Qo,Qp,Qq,Qr,Qs,Qt,Qu,Qv,Qw,Qx,Qy,Qz,Ra,Rb,Rc,Rd,Re,Rf,Rg,Rh,Ri,Rj,Rk,Rl,Rm,Ya,Yb,Yc,Rn,Ro,Rp,Yd,Ye,Rq,Rs,Rt,Ru,Rv,Rw,Rx]
  refine learn_loop hE hn hf hcl ?_ hr s10 ow1 v.heat [] _ _ _ _ _ _ _ _ _ _ _ _ (Nat.le_refl _) H ⟨by simp,by simp,Nat.zero_le _,by simp,by simp⟩ ⟨by simp,by simp⟩ (Step.refl _ _ _)
  intro s11 ow11 h11 M y1 y7 y8 y9 y10 y11 y12 y13 y14 y15 y16 y17 y18 y19 y20 H11 I11 M11 st11
  simp only[if_true,Qa,Qb,Qc,Qd,Qe,Qf,Qg,Qh,Qi,Qj,Qk,Ql,Qm,Qn,true_and,and_true,Qo,Qp,Qq,Qr,Qs,Qt,Qu,Qv,Qw,Qx,Qy,Qz,Ra,Rb,Rc,Rd,Re,Rf,Rg,Rh,Ri,Rj,Rk,Rl,Rm,Ya,Yb,Yc,Rn,Ro,Rp,Yd,Ye,Rq,Rs,Rt,Ru,Rv,Rw,Rx]
  refine learn_end hE H11 hn hz.level I11 ?_
  have hmL:∀ {t:Tag},mineL p t→mine p t:=by
    rintro t ((e | e | e) | e)<;>rw[e]<;>rfl
  have stA:Step (mine p) ow s ow11 s11:=(st.mono fun _ q=>q.elim).trans (st11.mono fun t ht=>hmL ht)
  obtain⟨lv,b1,b2⟩:=H11.lb
  have hsm:=I11.small
  have hle:=I11.len
  have hlt11:=H11.lt
  have hm20:∀y i,y≠20→¬ ((p,y,i):Tag)=(p,20,0):=fun y i hy=>tne hy
  have fin:∀ (s12 s13:ASt),Box1 s12 (s.next+1) lv→Buf ow11 (p,20,0) s12 lv (ivs (learnL v r))→Step (· = (p,20,0)) ow11 s11 ow11 s12→s12.next=s11.next →
      Box1 s13 (s.next+1) lv→Box1 s13 (s.next+2) (iv r.lev)→Step (· = (p,21,0)) ow11 s12 ow11 s13→s13.next=s12.next →
      ∃s14,unmark s13 M=some s14∧loadV Try.prog s14 23 (.ptr (some (s.next+1,0)))=some lv∧loadV Try.prog s14 3 (.ptr (some (s.next+2,0)))=some (iv r.lev)∧SAt ow11 s14 p x (heatV v h11)∧Buf ow11 (p,20,0) s14 lv (ivs (learnL v r))∧Step (mine p) ow s ow11 s14:=by
    intro s12 s13 d1 d2 d3 d4 k1 k2 k3 k4
    have M13:MarksAt ow11 s13 p M:=(M11.step d3 (hm20 _ _ (by decide))).step k3 (tne (by decide))
    obtain⟨s14,u1,u2,u3⟩:=M13.unmark
    have w1:Box1 s14 (s.next+1) lv:=k1.keep (u3.heap _ (by omega) (by rw[H11.tg (s.next+1) (by omega) (by omega) (by omega)];exact tne (by decide)))
    have w2:Box1 s14 (s.next+2) (iv r.lev):=k2.keep (u3.heap _ (by omega) (by rw[H11.tg (s.next+2) (by omega) (by omega) (by omega)];exact tne (by decide)))
    have hno:∀ (z:Nat),16≤z→∀y i,y<16→¬ ((p,y,i):Tag)=(p,z,0):=fun z hz y i hy=>tne (by omega)
    exact⟨s14,u1,w1.load ag23,w2.load ag3,((H11.sat.keep16 d3 (hno 20 (by decide))).keep16 k3 (hno 21 (by decide))).keep16 u3 (hno 22 (by decide)),(d2.step k3 (tne (by decide))).step u3 (tne (by decide)),
      ((stA.trans (d3.mono fun t ht=>by rw[ht];rfl)).trans (k3.mono fun t ht=>by rw[ht];rfl)).trans (u3.mono fun t ht=>by rw[ht];rfl)⟩
  have tg12:∀j,j=s.next+1∨j=s.next+2→ow11 j=(p,21,0):=by
    rintro j (e | e)<;>subst e<;>exact H11.tg _ (by omega) (by omega) (by omega)
  cases hfi:firstI (atLev v r.lev) r.lits 0 with
  | none =>
    have el:learnL v r=r.hd::r.lits:=by unfold learnL;rw[hfi]
    have hd0:decide ((0:Int)≤-1)=false:=rfl
    simp only[c67o29,idxV,hd0,lvs,Qa,Qb,Qc,Qd,Qe,Qf,Qg,Qh,Qi,Qj,Qk,Ql,Qm,Qn,true_and,and_true,Qo,Qp,Qq,Qr,Qs,Qt,Qu,Qv,Qw,Qx,Qy,Qz,Ra,Rb,Rc,Rd,Re,Rf,Rg,Rh,Ri,Rj,Rk,Rl,Rm,Ya,Yb,Yc,Rn,Ro,Rp,Yd,Ye,Rq,Rs,Rt,Ru,Rv,Rw,Rx]
    refine L_o31 b1 b2 H11.vb tg12 ?_
    intro s13 k1 k2 k3 k4
    rw[← el]at b2
    obtain⟨s14,u1,u2,u3,u4,u5,u6⟩:=fin s11 s13 b1 b2 (Step.refl _ _ _) rfl k1 k2 k3 k4
    simp only[u1,results_load,u2,u3,Qa,Qb,Qc,Qd,Qe,Qf,Qg,Qh,Qi,Qj,Qk,Ql,Qm,Qn,true_and,and_true,Qo,Qp,Qq,Qr,Qs,Qt,Qu,Qv,Qw,Qx,Qy,Qz,Ra,Rb,Rc,Rd,Re,Rf,Rg,Rh,Ri,Rj,Rk,Rl,Rm,Ya,Yb,Yc,Rn,Ro,Rp,Yd,Ye,Rq,Rs,Rt,Ru,Rv,Rw,Rx]
    exact⟨lv,ow11,h11,rfl,I11,u4,H11.hl,u5,u6⟩
  | some i =>
    have el:learnL v r=swapL (r.hd::r.lits) 1 (i+1):=by unfold learnL;rw[hfi]
    have hd0:decide ((0:Int)≤(i:Int))=true:=decide_eq_true (by omega)
    have hfl:=(firstI_lt hfi).2
    simp only[c67o29,idxV,hd0,lvs,Qa,Qb,Qc,Qd,Qe,Qf,Qg,Qh,Qi,Qj,Qk,Ql,Qm,Qn,true_and,and_true,Qo,Qp,Qq,Qr,Qs,Qt,Qu,Qv,Qw,Qx,Qy,Qz,Ra,Rb,Rc,Rd,Re,Rf,Rg,Rh,Ri,Rj,Rk,Rl,Rm,Ya,Yb,Yc,Rn,Ro,Rp,Yd,Ye,Rq,Rs,Rt,Ru,Rv,Rw,Rx]
    refine L_o30 b1 b2 (i:=i) (by simp;omega) (by simp;omega) (H11.tg _ (by omega) (by omega) (by omega)) (by omega) ?_
    intro s12 d1 d2 d3 d4
    rw[← el]at d2
    have d5:Box1 s12 (s.next+2) (iv r.lev):=H11.vb.keep (d3.heap _ (by omega) (by rw[H11.tg (s.next+2) (by omega) (by omega) (by omega)];exact hm20 _ _ (by decide)))
    try simp only[Qa,Qb,Qc,Qd,Qe,Qf,Qg,Qh,Qi,Qj,Qk,Ql,Qm,Qn,true_and,and_true,Qo,Qp,Qq,Qr,Qs,Qt,Qu,Qv,Qw,Qx,Qy,Qz,Ra,Rb,Rc,Rd,Re,Rf,Rg,Rh,Ri,Rj,Rk,Rl,Rm,Ya,Yb,Yc,Rn,Ro,Rp,Yd,Ye,Rq,Rs,Rt,Ru,Rv,Rw,Rx]
    refine L_o31 d1 d2 d5 tg12 ?_
    intro s13 k1 k2 k3 k4
    obtain⟨s14,u1,u2,u3,u4,u5,u6⟩:=fin s12 s13 d1 d2 d3 d4 k1 k2 k3 k4
    simp only[u1,results_load,u2,u3,Qa,Qb,Qc,Qd,Qe,Qf,Qg,Qh,Qi,Qj,Qk,Ql,Qm,Qn,true_and,and_true,Qo,Qp,Qq,Qr,Qs,Qt,Qu,Qv,Qw,Qx,Qy,Qz,Ra,Rb,Rc,Rd,Re,Rf,Rg,Rh,Ri,Rj,Rk,Rl,Rm,Ya,Yb,Yc,Rn,Ro,Rp,Yd,Ye,Rq,Rs,Rt,Ru,Rv,Rw,Rx]
    exact⟨lv,ow11,h11,rfl,I11,u4,H11.hl,u5,u6⟩
theorem get_appN{α:Type}{cs add:List α}{u:α}{k:Nat}(h:(cs++add)[k]? = some u):(k<cs.length∧cs[k]? = some u)∨(cs.length≤k∧add[k - cs.length]? = some u):=by
  rcases Nat.lt_or_ge k cs.length with hlt | hge
  · rw[List.getElem?_append_left hlt]at h;exact .inl ⟨hlt,h⟩
  · rw[List.getElem?_append_right hge]at h
    exact .inr ⟨hge,h⟩
theorem Buf.pushN {ow : Ow} {T : Tag} {s : ASt} {v : AV} {cs : List AV} (h : Buf ow T s v cs) {st e : TypeId} {by_ : Nat} (ht : Try.prog.underlying st = some (.slice e)) (hs : sizeT Try.prog e = some 1) (hb : bytesT Try.prog e = some by_) (hby : by_ ≤ 100) (hx : isSliceOrStr Try.prog st = true) (hz : zeroOk Try.prog e 1 = true)
    (hl:cs.length≤1000000000) {add:List AV} (hne:0<add.length) (hal:add.length≤1000) (hac:allCells add=true) {w:AV} (hsrc:srcCells Try.prog s e 1 w=some (add.length,add)) (hw:∃aw cw,w=.slice aw add.length cw):
    ∃v' s' ow',appendA Try.prog s [st,st] [v,w]=some (v',s')∧Buf ow' T s' v' (cs++add)∧Step (· = T) ow s ow' s':=by
  obtain⟨aw,cw,rfl⟩:=hw
  have hnn:add≠[]:=fun e=>by rw[e]at hne;cases hne
  have hmul:(cs.length+add.length) * by_≤(cs.length+add.length) * 100:=Nat.mul_le_mul_left _ hby
  have fresh:∀ (s1:ASt),Step (· = T) ow s ow s1→s1.next=s.next→(∀ (c:Tree AV) (par:Option Nat),(∀k u,(cs++add)[k]? = some u→c.get k=some u)→(∀p,par=some p→ow p=T∧p<s.next) →
      ∃ow',Buf ow' T (newObj s1 (grownRow e 1 c (cs++add).length par)) (.slice (some (s.next,0)) (cs.length+add.length) none) (cs++add)∧Step (· = T) ow s ow' (newObj s1 (grownRow e 1 c (cs++add).length par))):=by
    intro s1 hst hn c par hcg hpar
    refine⟨ext ow s1.next T,.inr ⟨s.next,0,none,{ elem:=e,sz:=1,n:=(cs++add).length,c,spare:=true,mode:=.own,par,bytes:=false },by rw[List.length_append],⟨by rw[heap_new,if_pos hn.symm];rfl,ext_ge (by omega),by show s.next<s1.next+1;omega,rfl,rfl,fun p hp=>?_⟩,fun k u hk=>by rw[Nat.zero_add];exact hcg k u hk,by rw[Nat.zero_add];exact Nat.le_refl _,⟨rfl,by show 0<(cs++add).length;rw[List.length_append];omega⟩⟩,hst.trans (Step.new _ ow s1 _ T)⟩
    obtain⟨h1,h2⟩:=hpar p hp
    exact⟨by rw[ext_lt (by omega)];exact h1,by show p<s1.next+1;omega,by omega⟩
  rcases h with⟨rfl,rfl⟩ | ⟨i,o,cap,r,rfl,h2,h3,h4,h5⟩
  · obtain⟨ow',g1,g2⟩:=fresh s (Step.refl _ _ _) rfl (Tree.fill .leaf 0 add) none (fun k u hk=>by
      have:=fill_get (t:=Tree.leaf) (n:=0) hk
      rw[Nat.zero_add]at this
      exact this) (fun p hp=>by cases hp)
    refine⟨_,_,ow',?_,g1,g2⟩
    have hmul':(0+add.length) * by_≤(0+add.length) * 100:=Nat.mul_le_mul_left _ hby
    rw[appendA_eq ht hs hb (by decide) hx hsrc hac (by omega) (by omega)]
    simp only[appTo,beq_off (show add.length≠0 by omega),cond_false,appFresh,guardB,hz,cond_true,List.nil_append,List.length_nil,Nat.zero_add]
  · have happ := appendA_eq (st := st) (xt := st) (a := some (i, o)) (n := cs.length) (cap := cap) ht hs hb (by decide) hx hsrc hac (by omega) (by omega)
    have hcells:loadN s i o (cs.length * 1)=some cs:=by
      have hrow:rowAt s i=some r:=by simp[rowAt,h2.get]
      simp only[loadN,hrow,Option.bind_some,Nat.mul_one,ble_of h4,guardB,cond_true]
      exact take_of _ _ fun j u hj=>h3 j u hj
    have freshC:∀k u,(cs++add)[k]? = some u→(Tree.fill .leaf 0 (cs++add)).get k=some u:=fun k u hk=>by
      have:=fill_get (t:=Tree.leaf) (n:=0) hk
      rw[Nat.zero_add]at this
      exact this
    cases cap with
    | some c =>
      obtain⟨h6,h7⟩:=h5
      by_cases hfit:cs.length+add.length≤c
      · obtain⟨s',g1,g2,g3,g4⟩:=h2.store (o:=o+cs.length * 1) (vs:=add) hnn (by omega) hac
        refine⟨.slice (some (i,o)) (cs.length+add.length) (some c),s',ow,?_,.inr ⟨i,o,some c,_,by rw[List.length_append],g2,fun k u hk=>?_,by rw[List.length_append];show o+(cs.length+add.length)≤r.n;omega,by rw[List.length_append];exact⟨hfit,h7⟩⟩,g3⟩
        · rw[happ]
          simp only[appTo,appExact,ble_of hfit,cond_true,g1,Option.bind_some]
        · show(Tree.fill r.c (o+cs.length * 1) add).get (o+k)=some u
          rcases get_appN hk with⟨k1,k2⟩ | ⟨k1,k2⟩
          · rw[fill_off (by omega)];exact h3 k u k2
          · have:=fill_get (t:=r.c) (n:=o+cs.length * 1) k2
            rw[show o+k=o+cs.length * 1+(k - cs.length) by omega];exact this
      · obtain⟨ow',g1,g2⟩:=fresh s (Step.refl _ _ _) rfl (Tree.fill .leaf 0 (cs++add)) none freshC (fun p hp=>by cases hp)
        refine⟨_,_,ow',?_,g1,g2⟩
        rw[happ]
        simp only[appTo,appExact,ble_off (show c<cs.length+add.length by omega),cond_false,hcells,Option.bind_some,appFresh,guardB,hz,cond_true]
    | none =>
      have h5:o=0:=h5.1
      subst h5
      have hrow:rowAt s i=some r:=by simp[rowAt,h2.get]
      by_cases hfit:cs.length+add.length≤r.n
      · obtain⟨s',g1,g2,g3,g4⟩:=h2.store (o:=0+cs.length * 1) (vs:=add) hnn (by omega) hac
        refine⟨.slice (some (i,0)) (cs.length+add.length) none,s',ow,?_,.inr ⟨i,0,none,_,by rw[List.length_append],g2,fun k u hk=>?_,by rw[List.length_append];show 0+(cs.length+add.length)≤r.n;omega,⟨rfl,by show 0<r.n;omega⟩⟩,g3⟩
        · rw[happ]
          simp only[appTo,hrow,Option.bind_some,appOpen,h2.sz,beq_of rfl,guardB,cond_true,ble_of (show 0+(cs.length+add.length) * 1≤r.n by omega),g1]
        · show(Tree.fill r.c (0+cs.length * 1) add).get (0+k)=some u
          rcases get_appN hk with⟨k1,k2⟩ | ⟨k1,k2⟩
          · rw[fill_off (by omega)];exact h3 k u k2
          · have:=fill_get (t:=r.c) (n:=0+cs.length * 1) k2
            rw[show 0+k=0+cs.length * 1+(k - cs.length) by omega];exact this
      · have hnf:Nat.ble (0+(cs.length+add.length) * 1) r.n=false:=ble_off (by omega)
        cases hsp:r.spare with
        | false =>
          obtain⟨ow',g1,g2⟩:=fresh s (Step.refl _ _ _) rfl (Tree.fill .leaf 0 (cs++add)) none freshC (fun p hp=>by cases hp)
          refine⟨_,_,ow',?_,g1,g2⟩
          rw[happ]
          simp only[appTo,hrow,Option.bind_some,appOpen,h2.sz,beq_of rfl,guardB,cond_true,hnf,cond_false,hcells,hsp,appFresh,hz]
        | true =>
          have hun:(unshare s i r).next=s.next:=by
            unfold unshare
            split
            · rfl
            · rename_i p _
              cases Nat.beq p i<;>rfl
          have hunh:∀y,y<s.next→¬ ow y=T→(unshare s i r).heap.get y=s.heap.get y:=fun y hy hm=>by
            unfold unshare
            cases hp:r.par with
            | none=>rfl
            | some p =>
              obtain⟨k1,k2,k3⟩:=h2.par p hp
              simp only[beq_off k3,cond_false]
              rw[heap_del,if_neg (fun e=>hm (by rw[e];exact k1))]
          have hcc:∀k u,(cs++add)[k]? = some u→(r.c.fill (cs.length * 1) add).get k=some u:=fun k u hk=>by
            rcases get_appN hk with⟨k1,k2⟩ | ⟨k1,k2⟩
            · rw[fill_off (by omega)]
              have:=h3 k u k2
              rw[Nat.zero_add]at this
              exact this
            · have:=fill_get (t:=r.c) (n:=cs.length * 1) k2
              rw[show k=cs.length * 1+(k - cs.length) by omega]
              exact this
          cases hends:Nat.beq (0+cs.length * 1) r.n with
          | true =>
            have hst:Step (· = T) ow s ow (setObj (unshare s i r) i (.row { r with mode:=.sealed,par:=none })):=by
              refine⟨by show s.next≤(unshare s i r).next;omega,fun _ _ _=>rfl,fun y hy hm=>?_⟩
              have hyi:y≠i:=fun e=>hm (by rw[e];exact h2.whose)
              rw[heap_set,if_neg hyi]
              exact hunh y hy hm
            obtain⟨ow',g1,g2⟩:=fresh _ hst hun (r.c.fill (cs.length * 1) add) (some i) hcc (fun p hp=>by injection hp with hp;subst hp;exact⟨h2.whose,h2.lt⟩)
            refine⟨_,_,ow',?_,g1,g2⟩
            rw[happ]
            simp only[appTo,hrow,Option.bind_some,appOpen,h2.sz,beq_of rfl,guardB,cond_true,hnf,cond_false,hcells,hsp,appSpare,h2.own,isOwn,hz,Bool.and_self,hends,sealOld]
          | false =>
            have hst:Step (· = T) ow s ow (delObj (unshare s i r) i):=by
              refine⟨by show s.next≤(unshare s i r).next;omega,fun _ _ _=>rfl,fun y hy hm=>?_⟩
              have hyi:y≠i:=fun e=>hm (by rw[e];exact h2.whose)
              rw[heap_del,if_neg hyi]
              exact hunh y hy hm
            obtain⟨ow',g1,g2⟩:=fresh _ hst hun (r.c.fill (cs.length * 1) add) none hcc (fun p hp=>by cases hp)
            refine⟨_,_,ow',?_,g1,g2⟩
            rw[happ]
            simp only[appTo,hrow,Option.bind_some,appOpen,h2.sz,beq_of rfl,guardB,cond_true,hnf,cond_false,hcells,hsp,appSpare,h2.own,isOwn,hz,Bool.and_self,hends,sealOld]
def grow1(v:Sv):Sv:={ v with watches:=v.watches++[[],[]],value:=v.value++[0],level:=v.level++[0],why:=v.why++[none],heat:=v.heat++[0],phase:=v.phase++[-1] }
def growN:Nat→Sv→Sv
  | 0,v=>v
  | k+1,v=>growN k (grow1 v)
def growV(v:Sv)(n:Nat):Sv:=growN (n+1 - v.value.length) v
theorem bld88:sliceRowA Try.prog 88 2 (zipIdx [0,1] [.slice none 0 (some 0),.slice none 0 (some 0)])=some (mkRow 89 1 [.slice none 0 (some 0),.slice none 0 (some 0)]):=by
  simp[sliceRowA,Try.underlying88,sz89,guardB,zr89,zipIdx,fillA,AV.cells,rep]
  rfl
theorem BoxN.put{ow:Ow}{s:ASt}{p k:Nat}{cs:List AV}(h:BoxN s p cs)(ht:ow p=(p,0,0))(hk:k<cs.length){t:TypeId}(hs:sizeT Try.prog t=some 1){d:AV}(h1:d.isCell=true)(h2:d.cells=[d]):
    ∃s',storeV Try.prog s t (.ptr (some (p,k))) d=some s'∧BoxN s' p (cs.set k d)∧Step (· = (p,0,0)) ow s ow s'∧s'.next=s.next:=by
  obtain⟨s',g1,g2,g3,g4⟩:=h.store (k:=k) (d:=d) hk hs h1 h2
  exact⟨s',g1,g2,⟨by omega,fun _ _ _=>rfl,fun y _ hm=>g4 y fun e=>hm (by rw[e];exact ht)⟩,g3⟩
theorem SAt.push_w{ow:Ow}{s:ASt}{p:Nat}{x:Sf}{v:Sv}(h:SAt ow s p x v)(hl:v.watches.length≤1000000000){q:Nat}{ty sz':Nat}(hq:s.heap.get q=some (mkRow ty sz' [.slice none 0 (some 0),.slice none 0 (some 0)])):
    ∃u s' s'' ow',appendA Try.prog s [88,88] [x.w,.slice (some (q,0)) 2 (some 2)]=some (u,s')∧storeV Try.prog s' 88 (.ptr (some (p,0))) u=some s''∧SAt ow' s'' p { x with w:=u } { v with watches:=v.watches++[[],[]] }∧Step (mine p) ow s ow' s'':=by
  obtain⟨us,w1,w2,w3⟩:=h.w
  have src:=src_one (P:=Try.prog) (e:=89) (s:=s) (n:=2) (cap:=some 2) (sz:=1) ty sz' hq rfl
  obtain⟨u,s',ow',g1,g2,g3⟩:=w2.pushN (st:=88) (e:=89) Try.underlying88 sz89 by89 (by decide) str88 zero89 (by omega) (add:=[.slice none 0 (some 0),.slice none 0 (some 0)]) (by decide) (by decide) rfl src ⟨_,_,rfl⟩
  have hm1:∀a i,a≠1→¬ ((p,a,i):Tag)=(p,1,0):=fun a i ha=>tne ha
  have hl:=h.lt
  have hn:=g3.next
  have hb:BoxN s' p (svCells x v):=h.box.step g3 h.tag h.lt (hm1 0 0 (by decide))
  have ht:ow' p=(p,0,0):=by rw[g3.tags p h.lt (by rw[h.tag];exact hm1 0 0 (by decide))];exact h.tag
  obtain⟨s'',k1,k2,k3,k4⟩:=hb.put ht (k:=0) (d:=u) (by simp) (t:=88) sz88 g2.isCell.1 g2.isCell.2
  have hm0:∀a i,a≠0→¬ ((p,a,i):Tag)=(p,0,0):=fun a i ha=>tne ha
  have st:Step (fun t=>t=(p,1,0)∨t=(p,0,0)) ow s ow' s'':=(g3.mono fun t ht=>.inl ht).trans (k3.mono fun t ht=>.inr ht)
  have hm:∀a i,a ∉ [0,1]→¬ (((p,a,i):Tag)=(p,1,0)∨((p,a,i):Tag)=(p,0,0)):=fun a i ha=>by
    rintro(e | e)
    · exact tne (fun q=>ha (by rw[q];decide)) e
    · exact tne (fun q=>ha (by rw[q];decide)) e
  refine⟨u,s',s'',ow',g1,k1,{ box:=k2,tag:=ht,lt:=by omega,w:=?_,learned:=h.learned.step st (hm 3 0 (by decide)),value:=h.value.step st (hm 4 0 (by decide)),level:=h.level.step st (hm 5 0 (by decide)),why:=h.why.step st (hm 6 0 (by decide)),heat:=h.heat.step st (hm 7 0 (by decide)),phase:=h.phase.step st (hm 8 0 (by decide)),trail:=h.trail.step st (hm 9 0 (by decide)),limits:=h.limits.step st (hm 10 0 (by decide)),model:=h.model.step st (hm 11 0 (by decide)),trace:=h.trace.step st (hm 12 0 (by decide)) (hm 13 0 (by decide)),cls:=fun c l hc=>(h.cls c l hc).step st (hm 14 c (by decide)) (hm 15 c (by decide)) },st.mono fun t ht=>by rcases ht with e | e<;>rw[e]<;>rfl⟩
  refine⟨us++[.slice none 0 (some 0),.slice none 0 (some 0)],by rw[List.length_append,List.length_append,w1];rfl,g2.step k3 (hm0 1 0 (by decide)),fun j L hj=>?_⟩
  rcases get_appN hj with⟨j1,j2⟩ | ⟨j1,j2⟩
  · obtain⟨u',r1,r2⟩:=w3 j L j2
    exact⟨u',by rw[List.getElem?_append_left (by omega)];exact r1,(r2.step st (hm 2 j (by decide)))⟩
  · have e:L=[]:=by
      have:=List.mem_of_getElem? j2
      simpa using this
    subst e
    refine⟨.slice none 0 (some 0),?_,Buf.nil _ _ _⟩
    rw[List.getElem?_append_right (by omega),w1]
    have:=lt_of_get j2
    generalize hz:j - v.watches.length=z at *
    match z,this with
    | 0,_=>rfl
    | 1,_=>rfl
theorem SAt.push_vlw{ow:Ow}{s:ASt}{p:Nat}{x:Sf}{v:Sv}(h:SAt ow s p x v)(hl1:v.value.length≤1000000000)(hl2:v.level.length≤1000000000)(hl3:v.why.length≤1000000000){q1 q2 q3:Nat}(hq1:s.heap.get q1=some (mkRow 3 1 [iv 0]))(hq2:s.heap.get q2=some (mkRow 3 1 [iv 0]))(hq3:s.heap.get q3=some (mkRow 92 1 [.ptr none]))(t2:ow q2=(0,0,0)∧q2<s.next)(t3:ow q3=(0,0,0)∧q3<s.next):
    ∃u1 u2 u3 s1 s2 s3 s4 s5 s6 ow',appendA Try.prog s [23,23] [x.val,.slice (some (q1,0)) 1 (some 1)]=some (u1,s1)∧appendA Try.prog s1 [23,23] [x.lev,.slice (some (q2,0)) 1 (some 1)]=some (u2,s2)∧appendA Try.prog s2 [89,89] [x.why,.slice (some (q3,0)) 1 (some 1)]=some (u3,s3) ∧
      storeV Try.prog s3 23 (.ptr (some (p,2))) u1=some s4∧storeV Try.prog s4 23 (.ptr (some (p,3))) u2=some s5∧storeV Try.prog s5 89 (.ptr (some (p,4))) u3=some s6 ∧
      SAt ow' s6 p { x with val:=u1,lev:=u2,why:=u3 } { v with value:=v.value++[0],level:=v.level++[0],why:=v.why++[none] }∧Step (mine p) ow s ow' s6 ∧
      (∀t a,loadV Try.prog s t (.ptr (some (p,a)))=loadV Try.prog s1 t (.ptr (some (p,a)))∧loadV Try.prog s t (.ptr (some (p,a)))=loadV Try.prog s2 t (.ptr (some (p,a)))):=by
  have hlt:=h.lt
  have z0:∀a,a≠0→¬ ((0,0,0):Tag)=(p,a,0):=fun a ha e=>by
    injection e with _ e
    injection e with e _
    exact ha e.symm
  obtain⟨u1,s1,ow1,a1,a2,a3⟩:=h.value.push (st:=23) (e:=3) Try.underlying23 sz3 by3 (by decide) str23 zero3 (by rw[List.length_map];exact hl1) (x:=iv 0) rfl hq1
  have n1:=a3.next
  have r2:s1.heap.get q2=some (mkRow 3 1 [iv 0]):=(a3.heap q2 t2.2 (by rw[t2.1];exact z0 4 (by decide))).trans hq2
  obtain⟨u2,s2,ow2,b1,b2,b3⟩:=(h.level.step a3 (tne (by decide))).push (st:=23) (e:=3) Try.underlying23 sz3 by3 (by decide) str23 zero3 (by rw[List.length_map];exact hl2) (x:=iv 0) rfl r2
  have n2:=b3.next
  have r3:s2.heap.get q3=some (mkRow 92 1 [.ptr none]):=by
    have e:=a3.heap q3 t3.2 (by rw[t3.1];exact z0 4 (by decide))
    have o:=a3.tags q3 t3.2 (by rw[t3.1];exact z0 4 (by decide))
    exact((b3.heap q3 (by omega) (by rw[o,t3.1];exact z0 5 (by decide))).trans e).trans hq3
  obtain⟨u3,s3,ow3,c1,c2,c3⟩:=((h.why.step a3 (tne (by decide))).step b3 (tne (by decide))).push (st:=89) (e:=92) Try.underlying89 sz92 by92 (by decide) str89 zero92 (by rw[List.length_map];exact hl3) (x:=.ptr none) rfl r3
  have n3:=c3.next
  have stA:Step (fun t=>t=(p,4,0)∨t=(p,5,0)∨t=(p,6,0)) ow s ow3 s3:=((a3.mono fun t ht=>.inl ht).trans (b3.mono fun t ht=>.inr (.inl ht))).trans (c3.mono fun t ht=>.inr (.inr ht))
  have hm3:∀a i,a ∉ [4,5,6]→¬ (((p,a,i):Tag)=(p,4,0)∨((p,a,i):Tag)=(p,5,0)∨((p,a,i):Tag)=(p,6,0)):=fun a i ha=>by
    rintro(e | e | e)
    · exact tne (fun q=>ha (by rw[q];decide)) e
    · exact tne (fun q=>ha (by rw[q];decide)) e
    · exact tne (fun q=>ha (by rw[q];decide)) e
  have hb:BoxN s3 p (svCells x v):=h.box.step stA h.tag h.lt (hm3 0 0 (by decide))
  have ht:ow3 p=(p,0,0):=by rw[stA.tags p h.lt (by rw[h.tag];exact hm3 0 0 (by decide))];exact h.tag
  obtain⟨s4,d1,d2,d3,d4⟩:=hb.put ht (k:=2) (d:=u1) (by simp) (t:=23) sz23 a2.isCell.1 a2.isCell.2
  obtain⟨s5,e1,e2,e3,e4⟩:=d2.put ht (k:=3) (d:=u2) (by simp) (t:=23) sz23 b2.isCell.1 b2.isCell.2
  obtain⟨s6,f1,f2,f3,f4⟩:=e2.put ht (k:=4) (d:=u3) (by simp) (t:=89) sz89 c2.isCell.1 c2.isCell.2
  have stB:Step (· = (p,0,0)) ow3 s3 ow3 s6:=(d3.trans e3).trans f3
  have hm0:∀a i,a≠0→¬ ((p,a,i):Tag)=(p,0,0):=fun a i ha=>tne ha
  have st:Step (fun t=>(t=(p,4,0)∨t=(p,5,0)∨t=(p,6,0))∨t=(p,0,0)) ow s ow3 s6:=(stA.mono fun t ht=>.inl ht).trans (stB.mono fun t ht=>.inr ht)
  have hm:∀a i,a ∉ [0,4,5,6]→¬ ((((p,a,i):Tag)=(p,4,0)∨((p,a,i):Tag)=(p,5,0)∨((p,a,i):Tag)=(p,6,0))∨((p,a,i):Tag)=(p,0,0)):=fun a i ha=>by
    rintro(e | e)
    · exact hm3 a i (fun q=>ha (List.mem_cons_of_mem _ q)) e
    · exact tne (fun q=>ha (by rw[q];decide)) e
  refine⟨u1,u2,u3,s1,s2,s3,s4,s5,s6,ow3,a1,b1,c1,d1,e1,f1,{ box:=f2,tag:=ht,lt:=by omega,w:=h.w.step st (hm 1 0 (by decide)) (fun j=>hm 2 j (by decide)),learned:=h.learned.step st (hm 3 0 (by decide)),value:=by show Buf ow3 (p,4,0) s6 u1 (List.map iv (v.value++[0]));rw[List.map_append];exact((a2.step b3 (tne (by decide))).step c3 (tne (by decide))).step stB (hm0 4 0 (by decide)),level:=by show Buf ow3 (p,5,0) s6 u2 (List.map iv (v.level++[0]));rw[List.map_append];exact(b2.step c3 (tne (by decide))).step stB (hm0 5 0 (by decide)),why:=by show Buf ow3 (p,6,0) s6 u3 (List.map whyA (v.why++[none]));rw[List.map_append];exact c2.step stB (hm0 6 0 (by decide)),heat:=h.heat.step st (hm 7 0 (by decide)),phase:=h.phase.step st (hm 8 0 (by decide)),trail:=h.trail.step st (hm 9 0 (by decide)),limits:=h.limits.step st (hm 10 0 (by decide)),model:=h.model.step st (hm 11 0 (by decide)),trace:=h.trace.step st (hm 12 0 (by decide)) (hm 13 0 (by decide)),cls:=fun c l hc=>(h.cls c l hc).step st (hm 14 c (by decide)) (hm 15 c (by decide)) },st.mono fun t ht=>by rcases ht with(e | e | e) | e<;>rw[e]<;>rfl,fun t a=>⟨(loadV_eq (a3.heap p hlt (by rw[h.tag];exact tne (by decide)))).symm,?_⟩⟩
  · have o:=a3.tags p hlt (by rw[h.tag];exact tne (by decide))
    rw[loadV_eq (b3.heap p (by omega) (by rw[o,h.tag];exact tne (by decide)))]
    exact(loadV_eq (a3.heap p hlt (by rw[h.tag];exact tne (by decide)))).symm
theorem SAt.push_hp{ow:Ow}{s:ASt}{p:Nat}{x:Sf}{v:Sv}(h:SAt ow s p x v)(hl1:v.heat.length≤1000000000)(hl2:v.phase.length≤1000000000){q1 q2:Nat}(hq1:s.heap.get q1=some (mkRow 3 1 [iv 0]))(hq2:s.heap.get q2=some (mkRow 3 1 [iv (-1)]))(t2:ow q2=(0,0,0)∧q2<s.next):
    ∃u1 u2 s1 s2 s3 s4 ow',appendA Try.prog s [23,23] [x.heat,.slice (some (q1,0)) 1 (some 1)]=some (u1,s1)∧appendA Try.prog s1 [23,23] [x.ph,.slice (some (q2,0)) 1 (some 1)]=some (u2,s2) ∧
      storeV Try.prog s2 23 (.ptr (some (p,5))) u1=some s3∧storeV Try.prog s3 23 (.ptr (some (p,6))) u2=some s4 ∧
      SAt ow' s4 p { x with heat:=u1,ph:=u2 } { v with heat:=v.heat++[0],phase:=v.phase++[-1] }∧Step (mine p) ow s ow' s4 ∧
      (∀t a,loadV Try.prog s t (.ptr (some (p,a)))=loadV Try.prog s1 t (.ptr (some (p,a)))):=by
  have hlt:=h.lt
  have z0:∀a,a≠0→¬ ((0,0,0):Tag)=(p,a,0):=fun a ha e=>by
    injection e with _ e
    injection e with e _
    exact ha e.symm
  obtain⟨u1,s1,ow1,a1,a2,a3⟩:=h.heat.push (st:=23) (e:=3) Try.underlying23 sz3 by3 (by decide) str23 zero3 (by rw[List.length_map];exact hl1) (x:=iv 0) rfl hq1
  have n1:=a3.next
  have r2:s1.heap.get q2=some (mkRow 3 1 [iv (-1)]):=(a3.heap q2 t2.2 (by rw[t2.1];exact z0 7 (by decide))).trans hq2
  obtain⟨u2,s2,ow2,b1,b2,b3⟩:=(h.phase.step a3 (tne (by decide))).push (st:=23) (e:=3) Try.underlying23 sz3 by3 (by decide) str23 zero3 (by rw[List.length_map];exact hl2) (x:=iv (-1)) rfl r2
  have n2:=b3.next
  have stA:Step (fun t=>t=(p,7,0)∨t=(p,8,0)) ow s ow2 s2:=(a3.mono fun t ht=>.inl ht).trans (b3.mono fun t ht=>.inr ht)
  have hm3:∀a i,a ∉ [7,8]→¬ (((p,a,i):Tag)=(p,7,0)∨((p,a,i):Tag)=(p,8,0)):=fun a i ha=>by
    rintro(e | e)
    · exact tne (fun q=>ha (by rw[q];decide)) e
    · exact tne (fun q=>ha (by rw[q];decide)) e
  have hb:BoxN s2 p (svCells x v):=h.box.step stA h.tag h.lt (hm3 0 0 (by decide))
  have ht:ow2 p=(p,0,0):=by rw[stA.tags p h.lt (by rw[h.tag];exact hm3 0 0 (by decide))];exact h.tag
  obtain⟨s3,d1,d2,d3,d4⟩:=hb.put ht (k:=5) (d:=u1) (by simp) (t:=23) sz23 a2.isCell.1 a2.isCell.2
  obtain⟨s4,e1,e2,e3,e4⟩:=d2.put ht (k:=6) (d:=u2) (by simp) (t:=23) sz23 b2.isCell.1 b2.isCell.2
  have stB:Step (· = (p,0,0)) ow2 s2 ow2 s4:=d3.trans e3
  have hm0:∀a i,a≠0→¬ ((p,a,i):Tag)=(p,0,0):=fun a i ha=>tne ha
  have st:Step (fun t=>(t=(p,7,0)∨t=(p,8,0))∨t=(p,0,0)) ow s ow2 s4:=(stA.mono fun t ht=>.inl ht).trans (stB.mono fun t ht=>.inr ht)
  have hm:∀a i,a ∉ [0,7,8]→¬ ((((p,a,i):Tag)=(p,7,0)∨((p,a,i):Tag)=(p,8,0))∨((p,a,i):Tag)=(p,0,0)):=fun a i ha=>by
    rintro(e | e)
    · exact hm3 a i (fun q=>ha (List.mem_cons_of_mem _ q)) e
    · exact tne (fun q=>ha (by rw[q];decide)) e
  exact⟨u1,u2,s1,s2,s3,s4,ow2,a1,b1,d1,e1,{ box:=e2,tag:=ht,lt:=by omega,w:=h.w.step st (hm 1 0 (by decide)) (fun j=>hm 2 j (by decide)),learned:=h.learned.step st (hm 3 0 (by decide)),value:=h.value.step st (hm 4 0 (by decide)),level:=h.level.step st (hm 5 0 (by decide)),why:=h.why.step st (hm 6 0 (by decide)),heat:=by show Buf ow2 (p,7,0) s4 u1 (List.map iv (v.heat++[0]));rw[List.map_append];exact(a2.step b3 (tne (by decide))).step stB (hm0 7 0 (by decide)),phase:=by show Buf ow2 (p,8,0) s4 u2 (List.map iv (v.phase++[-1]));rw[List.map_append];exact b2.step stB (hm0 8 0 (by decide)),trail:=h.trail.step st (hm 9 0 (by decide)),limits:=h.limits.step st (hm 10 0 (by decide)),model:=h.model.step st (hm 11 0 (by decide)),trace:=h.trace.step st (hm 12 0 (by decide)) (hm 13 0 (by decide)),cls:=fun c l hc=>(h.cls c l hc).step st (hm 14 c (by decide)) (hm 15 c (by decide)) },st.mono fun t ht=>by rcases ht with(e | e) | e<;>rw[e]<;>rfl,fun t a=>(loadV_eq (a3.heap p hlt (by rw[h.tag];exact tne (by decide)))).symm⟩
def Szs(B:Nat)(v:Sv):Prop:=v.watches.length≤2 * B∧v.value.length≤B∧v.level.length≤B∧v.why.length≤B∧v.heat.length≤B∧v.phase.length≤B
theorem Szs.one{B:Nat}{v:Sv}(h:Szs B v):Szs (B+1) (grow1 v):=by
  obtain⟨h1,h2,h3,h4,h5,h6⟩:=h
  refine⟨?_,?_,?_,?_,?_,?_⟩<;>simp[grow1]<;>omega
theorem grow_o2{E:Env}{K:List AV→ASt→Prop}{ow:Ow}{s:ASt}{p:Nat}{x:Sf}{v:Sv}(h:SAt ow s p x v)(hl:v.watches.length≤1000000000)(x1 x2 x3:AV)
    (hK:∀s' ow' u,SAt ow' s' p { x with w:=u } { v with watches:=v.watches++[[],[]] }→Step (mine p) ow s ow' s'→K [AV.ptr (some (p,0)),x1,x2,x3] s'):Qb E c46o2 K [] [AV.ptr (some (p,0)),x1,x2,x3] s:=by
  have hms:∀ (m:Nat) (i:Nat),Made.val i (.slice m)=.slice (some (i,0)) m (some m):=fun _ _=>rfl
  have st:Step (fun _=>False) ow s (ext ow s.next (0,0,0)) (newObj s (mkRow 89 1 [.slice none 0 (some 0),.slice none 0 (some 0)])):=Step.new _ ow s _ _
  have h1:=h.keep st (fun _ q=>q.elim)
  obtain⟨u,s1,s2,ow',g1,g2,g3,g4⟩:=h1.push_w hl (q:=s.next) (ty:=89) (sz':=1) (by rw[heap_new,if_pos rfl])
  simp only[c46o2,nilCheck_ptr,fa91_0,h.ld_w,bld88,hms,g1,on2,g2,withV,Qa,Qb,Qc,Qd,Qe,Qf,Qg,Qh,Qi,Qj,Qk,Ql,Qm,Qn,true_and,and_true,Qo,Qp,Qq,Qr,Qs,Qt,Qu,Qv,Qw,Qx,Qy,Qz,Ra,Rb,Rc,Rd,Re,Rf,Rg,Rh,Ri,Rj,Rk,Rl,Rm,Ya,Yb,Yc,Rn,Ro,Rp,Yd,Ye,Rq,Rs,Rt,Ru,Rv,Rw,Rx]
  exact hK s2 ow' u g3 ((st.mono fun _ q=>q.elim).trans g4)
theorem grow_o3{E:Env}{K:List AV→ASt→Prop}{ow:Ow}{s:ASt}{p:Nat}{x:Sf}{v:Sv}(h:SAt ow s p x v)(hl1:v.value.length≤1000000000)(hl2:v.level.length≤1000000000)(hl3:v.why.length≤1000000000)(x1 x2 x3:AV)
    (hK:∀s' ow' u1 u2 u3,SAt ow' s' p { x with val:=u1,lev:=u2,why:=u3 } { v with value:=v.value++[0],level:=v.level++[0],why:=v.why++[none] }→Step (mine p) ow s ow' s'→K [AV.ptr (some (p,0)),x1,x2,x3] s'):Qb E c46o3 K [] [AV.ptr (some (p,0)),x1,x2,x3] s:=by
  have hms:∀ (m:Nat) (i:Nat),Made.val i (.slice m)=.slice (some (i,0)) m (some m):=fun _ _=>rfl
  have b3:=bld_one (P:=Try.prog) (t:=23) (v:=iv 0) Try.underlying23 sz3 zr3 rfl rfl
  have b92:=bld_one (P:=Try.prog) (t:=89) (v:=.ptr none) Try.underlying89 sz92 zr92 rfl rfl
  generalize e1:newObj s (mkRow 3 1 [iv 0])=s1
  have n1:s1.next=s.next+1:=by rw[← e1];rfl
  have o1:Old s.next s s1:=by rw[← e1];exact Old.new s _
  generalize e2:newObj s1 (mkRow 3 1 [iv 0])=s2
  have n2:s2.next=s.next+2:=by rw[← e2];show s1.next+1=_;omega
  have o2:Old (s.next+1) s1 s2:=by rw[← e2,← n1];exact Old.new s1 _
  generalize e3:newObj s2 (mkRow 92 1 [.ptr none])=s3
  have n3:s3.next=s.next+3:=by rw[← e3];show s2.next+1=_;omega
  have o3:Old (s.next+2) s2 s3:=by rw[← e3,← n2];exact Old.new s2 _
  have h1:=h.keep (Step.old (m:=fun _=>False) o1 (0,0,0)) (fun _ q=>q.elim)
  have oo:Old s.next s s2:=o1.trans (o2.mono (by omega))
  have h2:=h.keep (Step.old (m:=fun _=>False) oo (0,0,0)) (fun _ q=>q.elim)
  have o:Old s.next s s3:=oo.trans (o3.mono (by omega))
  have st:Step (fun _=>False) ow s (ext ow s.next (0,0,0)) s3:=Step.old o _
  have h3:=h.keep st (fun _ q=>q.elim)
  obtain⟨u1,u2,u3,t1,t2,t3,t4,t5,t6,ow',g1,g2,g3,g4,g5,g6,g7,g8,g9⟩:=h3.push_vlw hl1 hl2 hl3 (q1:=s.next) (q2:=s.next+1) (q3:=s.next+2)
    (by rw[o3.2 _ (by omega),o2.2 _ (by omega),← e1,heap_new,if_pos rfl]) (by rw[o3.2 _ (by omega),← e2,heap_new,if_pos (by omega)]) (by rw[← e3,heap_new,if_pos (by omega)]) ⟨ext_ge (by omega),by omega⟩ ⟨ext_ge (by omega),by omega⟩
  have q1:loadV Try.prog t1 23 (.ptr (some (p,3)))=some x.lev:=by rw[← (g9 23 3).1];exact h3.ld_lev
  have q2:loadV Try.prog t1 89 (.ptr (some (p,4)))=some x.why:=by rw[← (g9 89 4).1];exact h3.ld_why
  have q3:loadV Try.prog t2 89 (.ptr (some (p,4)))=some x.why:=by rw[← (g9 89 4).2];exact h3.ld_why
  simp only[c46o3,nilCheck_ptr,fa91_2,fa91_3,fa91_4,h.ld_val,b3,e1,hms,h1.ld_lev,n1,e2,h2.ld_why,b92,n2,e3,g1,again_r1,sameA_some,q1,q2,h3.level.self,h3.why.self,g2,q3,g3,on2,g4,g5,g6,withV,Qa,Qb,Qc,Qd,Qe,Qf,Qg,Qh,Qi,Qj,Qk,Ql,Qm,Qn,true_and,and_true,Qo,Qp,Qq,Qr,Qs,Qt,Qu,Qv,Qw,Qx,Qy,Qz,Ra,Rb,Rc,Rd,Re,Rf,Rg,Rh,Ri,Rj,Rk,Rl,Rm,Ya,Yb,Yc,Rn,Ro,Rp,Yd,Ye,Rq,Rs,Rt,Ru,Rv,Rw,Rx]
  exact hK t6 ow' u1 u2 u3 g7 ((st.mono fun _ q=>q.elim).trans g8)
theorem grow_o4{E:Env}{K:List AV→ASt→Prop}{ow:Ow}{s:ASt}{p:Nat}{x:Sf}{v:Sv}(h:SAt ow s p x v)(hl1:v.heat.length≤1000000000)(hl2:v.phase.length≤1000000000)(x1 x2 x3:AV)
    (hK:∀s' ow' u1 u2,SAt ow' s' p { x with heat:=u1,ph:=u2 } { v with heat:=v.heat++[0],phase:=v.phase++[-1] }→Step (mine p) ow s ow' s'→K [AV.ptr (some (p,0)),x1,x2,x3] s'):Qb E c46o4 K [] [AV.ptr (some (p,0)),x1,x2,x3] s:=by
  have hms:∀ (m:Nat) (i:Nat),Made.val i (.slice m)=.slice (some (i,0)) m (some m):=fun _ _=>rfl
  have b3:=bld_one (P:=Try.prog) (t:=23) (v:=iv 0) Try.underlying23 sz3 zr3 rfl rfl
  have b3':=bld_one (P:=Try.prog) (t:=23) (v:=iv (-1)) Try.underlying23 sz3 zr3 rfl rfl
  generalize e1:newObj s (mkRow 3 1 [iv 0])=s1
  have n1:s1.next=s.next+1:=by rw[← e1];rfl
  have o1:Old s.next s s1:=by rw[← e1];exact Old.new s _
  generalize e2:newObj s1 (mkRow 3 1 [iv (-1)])=s2
  have n2:s2.next=s.next+2:=by rw[← e2];show s1.next+1=_;omega
  have o2:Old (s.next+1) s1 s2:=by rw[← e2,← n1];exact Old.new s1 _
  have h1:=h.keep (Step.old (m:=fun _=>False) o1 (0,0,0)) (fun _ q=>q.elim)
  have oo:Old s.next s s2:=o1.trans (o2.mono (by omega))
  have st:Step (fun _=>False) ow s (ext ow s.next (0,0,0)) s2:=Step.old oo _
  have h2:=h.keep st (fun _ q=>q.elim)
  obtain⟨u1,u2,t1,t2,t3,t4,ow',g1,g2,g3,g4,g5,g6,g7⟩:=h2.push_hp hl1 hl2 (q1:=s.next) (q2:=s.next+1)
    (by rw[o2.2 _ (by omega),← e1,heap_new,if_pos rfl]) (by rw[← e2,heap_new,if_pos (by omega)]) ⟨ext_ge (by omega),by omega⟩
  have q1:loadV Try.prog t1 23 (.ptr (some (p,6)))=some x.ph:=by rw[← g7 23 6];exact h2.ld_ph
  simp only[c46o4,nilCheck_ptr,fa91_5,fa91_6,h.ld_heat,b3,e1,hms,h1.ld_ph,b3',n1,e2,g1,again_r1,sameA_some,q1,h2.phase.self,g2,on2,g3,g4,withV,Qa,Qb,Qc,Qd,Qe,Qf,Qg,Qh,Qi,Qj,Qk,Ql,Qm,Qn,true_and,and_true,Qo,Qp,Qq,Qr,Qs,Qt,Qu,Qv,Qw,Qx,Qy,Qz,Ra,Rb,Rc,Rd,Re,Rf,Rg,Rh,Ri,Rj,Rk,Rl,Rm,Ya,Yb,Yc,Rn,Ro,Rp,Yd,Ye,Rq,Rs,Rt,Ru,Rv,Rw,Rx]
  exact hK t4 ow' u1 u2 g5 ((st.mono fun _ q=>q.elim).trans g6)
theorem grow_loop{E:Env}(hE:Good E){n p:Nat}(hn:n<100000000){ow0:Ow}{s0:ASt}{v0:Sv}{Q:ARes→Prop}(hq:∀s' ow' x' y3,SAt ow' s' p x' v0→Step (mine p) ow0 s0 ow' s'→Q ⟨.exit 0,[AV.ptr (some (p,0)),iv (n:Int),.bool false,y3],[],s'⟩):
    ∀ (m:Nat) (s:ASt) (ow:Ow) (x:Sf) (v:Sv) (x3:AV),n+1 - v.value.length=m→Szs (n+1000 - m) v→m≤1000+n→SAt ow s p x v→growN m v=v0→Step (mine p) ow0 s0 ow s →
      WC E none (.loop c46l5) Q [AV.ptr (some (p,0)),iv (n:Int),.bool false,x3] [] s:=by
  intro m
  induction m with
  | zero =>
    intro s ow x v x3 hm hz hle h hv hst
    have ln:∀s,lenA Try.prog s 23 x.val=some (iv (v.value.length:Int)):=fun s=>by
      have:=h.value.len Try.underlying23 s
      rw[List.length_map]at this
      exact this
    have hd:decide ((v.value.length:Int)≤(n:Int))=false:=decide_eq_false (by omega)
    have hv:v=v0:=hv
    subst hv
    refine WC.loop' ?_
    simp only[c46l5,c46o1,nilCheck_ptr,fa91_2,h.ld_val,ln,hd,Qa,Qb,Qc,Qd,Qe,Qf,Qg,Qh,Qi,Qj,Qk,Ql,Qm,Qn,true_and,and_true,Qo,Qp,Qq,Qr,Qs,Qt,Qu,Qv,Qw,Qx,Qy,Qz,Ra,Rb,Rc,Rd,Re,Rf,Rg,Rh,Ri,Rj,Rk,Rl,Rm,Ya,Yb,Yc,Rn,Ro,Rp,Yd,Ye,Rq,Rs,Rt,Ru,Rv,Rw,Rx]
    exact hq s ow x _ h hst
  | succ m ih =>
    intro s ow x v x3 hm hz hle h hv hst
    have ln:∀s,lenA Try.prog s 23 x.val=some (iv (v.value.length:Int)):=fun s=>by
      have:=h.value.len Try.underlying23 s
      rw[List.length_map]at this
      exact this
    have hd:decide ((v.value.length:Int)≤(n:Int))=true:=decide_eq_true (by omega)
    obtain⟨z1,z2,z3,z4,z5,z6⟩:=hz
    refine WC.loop' ?_
    generalize hW:WC E none (CCode.loop c46l5) Q=W
    simp only[c46l5,c46o1,nilCheck_ptr,fa91_2,h.ld_val,ln,hd,Qa,Qb,Qc,Qd,Qe,Qf,Qg,Qh,Qi,Qj,Qk,Ql,Qm,Qn,true_and,and_true,Qo,Qp,Qq,Qr,Qs,Qt,Qu,Qv,Qw,Qx,Qy,Qz,Ra,Rb,Rc,Rd,Re,Rf,Rg,Rh,Ri,Rj,Rk,Rl,Rm,Ya,Yb,Yc,Rn,Ro,Rp,Yd,Ye,Rq,Rs,Rt,Ru,Rv,Rw,Rx]
    refine grow_o2 h (by omega) _ _ _ ?_
    intro s1 ow1 u1 h1 st1
    try simp only[Qa,Qb,Qc,Qd,Qe,Qf,Qg,Qh,Qi,Qj,Qk,Ql,Qm,Qn,true_and,and_true,Qo,Qp,Qq,Qr,Qs,Qt,Qu,Qv,Qw,Qx,Qy,Qz,Ra,Rb,Rc,Rd,Re,Rf,Rg,Rh,Ri,Rj,Rk,Rl,Rm,Ya,Yb,Yc,Rn,Ro,Rp,Yd,Ye,Rq,Rs,Rt,Ru,Rv,Rw,Rx]
    refine grow_o3 h1 (by show v.value.length≤_;omega) (by show v.level.length≤_;omega) (by show v.why.length≤_;omega) _ _ _ ?_
    intro s2 ow2 u2 u3 u4 h2 st2
    try simp only[Qa,Qb,Qc,Qd,Qe,Qf,Qg,Qh,Qi,Qj,Qk,Ql,Qm,Qn,true_and,and_true,Qo,Qp,Qq,Qr,Qs,Qt,Qu,Qv,Qw,Qx,Qy,Qz,Ra,Rb,Rc,Rd,Re,Rf,Rg,Rh,Ri,Rj,Rk,Rl,Rm,Ya,Yb,Yc,Rn,Ro,Rp,Yd,Ye,Rq,Rs,Rt,Ru,Rv,Rw,Rx]
    refine grow_o4 h2 (by show v.heat.length≤_;omega) (by show v.phase.length≤_;omega) _ _ _ ?_
    intro s3 ow3 u5 u6 h3 st3
    try simp only[Qa,Qb,Qc,Qd,Qe,Qf,Qg,Qh,Qi,Qj,Qk,Ql,Qm,Qn,true_and,and_true,Qo,Qp,Qq,Qr,Qs,Qt,Qu,Qv,Qw,Qx,Qy,Qz,Ra,Rb,Rc,Rd,Re,Rf,Rg,Rh,Ri,Rj,Rk,Rl,Rm,Ya,Yb,Yc,Rn,Ro,Rp,Yd,Ye,Rq,Rs,Rt,Ru,Rv,Rw,Rx]
    rw[← hW]
    refine ih s3 ow3 _ (grow1 v) _ (by show n+1 - (v.value++[0]).length=m;rw[List.length_append];simp;omega) ?_ (by omega) h3 hv (((hst.trans st1).trans st2).trans st3)
    have:=Szs.one (B:=n+1000 - (m+1)) (v:=v) ⟨z1,z2,z3,z4,z5,z6⟩
    rw[show n+1000 - m=n+1000 - (m+1)+1 by omega]
    exact this
theorem grow46_ok{E:Env}(hE:Good E){ow:Ow}{s:ASt}{p:Nat}{x:Sf}{v:Sv}(h:SAt ow s p x v){n:Nat}(hn:n<100000000)(hz:Szs 900 v):
    WF E 46 [ptrA p,iv (n:Int)] (fun _ s'=>∃ow' x',SAt ow' s' p x' (growV v n)∧Step (mine p) ow s ow' s') s:=by
  have he:=eq_ptr44 p
  simp only[ptrA]at he
  refine hE.go comp46 (by decide) rfl ?_
  simp only[c46,c46o0,ptrA,he,Qa,Qb,Qc,Qd,Qe,Qf,Qg,Qh,Qi,Qj,Qk,Ql,Qm,Qn,true_and,and_true,Qo,Qp,Qq,Qr,Qs,Qt,Qu,Qv,Qw,Qx,Qy,Qz,Ra,Rb,Rc,Rd,Re,Rf,Rg,Rh,Ri,Rj,Rk,Rl,Rm,Ya,Yb,Yc,Rn,Ro,Rp,Yd,Ye,Rq,Rs,Rt,Ru,Rv,Rw,Rx]
  obtain⟨z1,z2,z3,z4,z5,z6⟩:=hz
  refine grow_loop hE hn (v0:=growV v n) ?_ _ s ow x v _ rfl ⟨by omega,by omega,by omega,by omega,by omega,by omega⟩ (by omega) h rfl (Step.refl _ _ _)
  intro s' ow' x' y3 k1 k2
  simp only[if_true,Qa,Qb,Qc,Qd,Qe,Qf,Qg,Qh,Qi,Qj,Qk,Ql,Qm,Qn,true_and,and_true,Qo,Qp,Qq,Qr,Qs,Qt,Qu,Qv,Qw,Qx,Qy,Qz,Ra,Rb,Rc,Rd,Re,Rf,Rg,Rh,Ri,Rj,Rk,Rl,Rm,Ya,Yb,Yc,Rn,Ro,Rp,Yd,Ye,Rq,Rs,Rt,Ru,Rv,Rw,Rx]
  exact⟨ow',x',k1,k2⟩
def newV:Sv:={ watches:=[],learned:=[],value:=[],level:=[],why:=[],heat:=[],phase:=[],trail:=[],limits:=[],head:=0,broken:=false,model:=[],trace:=[],many:=0,room:=2000,cl:=fun _=>none }
theorem bld91:buildA Try.prog 91 (zipIdx [14] [iv 2000])=some (.agg (svCells ⟨.slice none 0 (some 0),.slice none 0 (some 0),.slice none 0 (some 0),.slice none 0 (some 0),.slice none 0 (some 0),.slice none 0 (some 0),.slice none 0 (some 0),.slice none 0 (some 0),.slice none 0 (some 0),.slice none 0 (some 0),.slice none 0 (some 0)⟩ newV)):=by
  simp[buildA,zr91,Try.underlying91,fieldSizes,sz3,sz4,sz23,sz88,sz89,sz33,zipIdx,fillA,cells_agg,guardB]
  rfl
theorem newS(ow:Ow)(s:ASt):SAt (ext ow s.next (s.next,0,0)) (newObj s (mkRow 91 0 (svCells ⟨.slice none 0 (some 0),.slice none 0 (some 0),.slice none 0 (some 0),.slice none 0 (some 0),.slice none 0 (some 0),.slice none 0 (some 0),.slice none 0 (some 0),.slice none 0 (some 0),.slice none 0 (some 0),.slice none 0 (some 0),.slice none 0 (some 0)⟩ newV))) s.next ⟨.slice none 0 (some 0),.slice none 0 (some 0),.slice none 0 (some 0),.slice none 0 (some 0),.slice none 0 (some 0),.slice none 0 (some 0),.slice none 0 (some 0),.slice none 0 (some 0),.slice none 0 (some 0),.slice none 0 (some 0),.slice none 0 (some 0)⟩ newV:=
  { box:=BoxN.new,tag:=ext_ge (Nat.le_refl _),lt:=Nat.lt_succ_self _,w:=⟨[],rfl,Buf.nil _ _ _,fun k L hk=>by cases hk⟩,learned:=Buf.nil _ _ _,value:=Buf.nil _ _ _,level:=Buf.nil _ _ _,why:=Buf.nil _ _ _,heat:=Buf.nil _ _ _,phase:=Buf.nil _ _ _,trail:=Buf.nil _ _ _,limits:=Buf.nil _ _ _,model:=Buf.nil _ _ _,trace:=⟨[],[],Dest.nil _ _,fun j hj=>(by cases hj),fun j hj=>(by cases hj),LineCells.nil _ _,fun u hu=>by cases hu⟩,cls:=fun c l hc=>by cases hc }
theorem new_ok{E:Env}(hE:Good E)(ow:Ow){s:ASt}{n:Nat}(hn:n<100000000):
    WF E 40 [iv (n:Int)] (fun r s'=>∃ow' x',r=ptrA s.next∧SAt ow' s' s.next x' (growV newV n)∧Step (mine s.next) ow s ow' s') s:=by
  have hptr:∀i,Made.val i .ptr=.ptr (some (i,0)):=fun _=>rfl
  have hmax:minMax true (iv (n:Int)) [iv 0]=some (iv (n:Int)):=by rw[max_iv];congr 2;omega
  refine hE.go comp40 (by decide) rfl ?_
  have hN:=newS ow s
  have hst:Step (mine s.next) ow s (ext ow s.next (s.next,0,0)) (newObj s (mkRow 91 0 (svCells ⟨.slice none 0 (some 0),.slice none 0 (some 0),.slice none 0 (some 0),.slice none 0 (some 0),.slice none 0 (some 0),.slice none 0 (some 0),.slice none 0 (some 0),.slice none 0 (some 0),.slice none 0 (some 0),.slice none 0 (some 0),.slice none 0 (some 0)⟩ newV))):=Step.new _ ow s _ _
  have hbox:∀l,boxA 91 (.agg l)=some (mkRow 91 0 l,.ptr):=fun l=>rfl
  simp only[c40,c40o0,c40o1,c40o2,bld91,hbox,hptr,hmax,Qa,Qb,Qc,Qd,Qe,Qf,Qg,Qh,Qi,Qj,Qk,Ql,Qm,Qn,true_and,and_true,Qo,Qp,Qq,Qr,Qs,Qt,Qu,Qv,Qw,Qx,Qy,Qz,Ra,Rb,Rc,Rd,Re,Rf,Rg,Rh,Ri,Rj,Rk,Rl,Rm,Ya,Yb,Yc,Rn,Ro,Rp,Yd,Ye,Rq,Rs,Rt,Ru,Rv,Rw,Rx]
  refine(grow46_ok hE hN hn ⟨by decide,by decide,by decide,by decide,by decide,by decide⟩).mono ?_
  rintro _ s' ⟨ow',x',g1,g2⟩
  simp only[c40o3,Qa,Qb,Qc,Qd,Qe,Qf,Qg,Qh,Qi,Qj,Qk,Ql,Qm,Qn,true_and,and_true,Qo,Qp,Qq,Qr,Qs,Qt,Qu,Qv,Qw,Qx,Qy,Qz,Ra,Rb,Rc,Rd,Re,Rf,Rg,Rh,Ri,Rj,Rk,Rl,Rm,Ya,Yb,Yc,Rn,Ro,Rp,Yd,Ye,Rq,Rs,Rt,Ru,Rv,Rw,Rx]
  exact⟨ow',x',rfl,g1,hst.trans g2⟩
def IntBuf(lo:Nat)(s:ASt)(v:AV)(L:List Int):Prop:=(∃a,v=.slice a 0 (some 0)∧L=[])∨∃i G,v=.slice (some (i,0)) L.length none∧lo≤i∧i<s.next∧RowAt s i (ivs L++G)
theorem IntBuf.slice{lo:Nat}{s:ASt}{v:AV}{L:List Int}(h:IntBuf lo s v L):SliceAt s.next s v (ivs L):=by
  rcases h with⟨a,rfl,rfl⟩ | ⟨i,G,rfl,h1,h2,h3⟩
  · exact⟨a,some 0,rfl,CellsAt.nil⟩
  · refine ⟨some (i, 0), none, by simp, fun k u hk => ⟨i, 0, rfl, h2, ?_⟩⟩
    rw[Nat.zero_add]
    exact h3.load1 (by rw[List.getElem?_append_left (lt_of_get hk)];exact hk)
theorem IntBuf.self{lo:Nat}{s:ASt}{v:AV}{L:List Int}(h:IntBuf lo s v L):eqA v v=true:=by
  rcases h with⟨a,rfl,rfl⟩ | ⟨i,G,rfl,_⟩<;>exact eqA_refl_slice
theorem IntBuf.keep{lo:Nat}{s s':ASt}{v:AV}{L:List Int}(h:IntBuf lo s v L)(hn:s.next≤s'.next)(hf:∀j,lo≤j→j<s.next→s'.heap.get j=s.heap.get j):IntBuf lo s' v L:=by
  rcases h with h | ⟨i,G,e,h1,h2,h3⟩
  · exact .inl h
  · exact .inr ⟨i,G,e,h1,by omega,h3.keep (hf i h1 h2)⟩
def arrI:AV→Option Nat
  | .slice (some (i,_)) _ none=>some i
  | _=>none
theorem IntBuf.buf{lo:Nat}{s:ASt}{v:AV}{L:List Int}(h:IntBuf lo s v L)(hL:L≠[]){ow:Ow}{T:Tag}(ht:∀i,lo≤i→i<s.next→arrI v=some i→ow i=T):Buf ow T s v (ivs L):=by
  rcases h with⟨a,rfl,e⟩ | ⟨i,G,rfl,h1,h2,r,g1,g2,g3,g4,g5⟩
  · exact absurd e hL
  · have hp : 0 < L.length := List.length_pos_iff.2 hL
    have hr:r.n=L.length+G.length:=by rw[g2.1];simp
    exact .inr ⟨i,0,none,r,by rw[ivs_len],⟨g1,ht i h1 h2 rfl,h2,g3,g5,fun p hp=>by rw[g4]at hp;cases hp⟩,fun k u hk=>by rw[Nat.zero_add];exact g2.2 k u (by rw[List.getElem?_append_left (lt_of_get hk)];exact hk),by rw[ivs_len];omega,⟨rfl,by omega⟩⟩
theorem comp_buf {E : Env} (hE : Good E) {lo : Nat} {s : ASt} {v : AV} {L : List Int} (h : IntArr lo s v L) (hL : L.length ≤ 1000) :
    WF E 88 [v] (fun r s'=>IntBuf lo s' r (compV L)∧(∀i,arrI r=some i→arrI v=some i)∧s'.next=s.next∧∀z,arrI v≠some z→s'.heap.get z=s.heap.get z) s:=by
  refine hE.go comp88 (by decide) rfl ?_
  by_cases hlt:L.length<2
  · have hd : decide ((L.length : Int) < 2) = true := decide_eq_true (by omega)
    have hc:compV L=L:=by
      cases L with
      | nil=>rfl
      | cons x r=>cases r with
        | nil=>rfl
        | cons y r=>simp at hlt;omega
    simp only[c88,c88o0,c88o1,c88o2,h.len,hd,Qa,Qb,Qc,Qd,Qe,Qf,Qg,Qh,Qi,Qj,Qk,Ql,Qm,Qn,true_and,and_true,Qo,Qp,Qq,Qr,Qs,Qt,Qu,Qv,Qw,Qx,Qy,Qz,Ra,Rb,Rc,Rd,Re,Rf,Rg,Rh,Ri,Rj,Rk,Rl,Rm,Ya,Yb,Yc,Rn,Ro,Rp,Yd,Ye,Rq,Rs,Rt,Ru,Rv,Rw,Rx]
    rw[hc]
    refine⟨?_,fun _ q=>q,fun _ _=>trivial⟩
    rcases h with⟨a,rfl,rfl⟩ | ⟨i,rfl,h1,h2,h3⟩
    · exact .inl ⟨a,rfl,rfl⟩
    · exact .inr ⟨i,[],rfl,h1,h2,by simpa using h3⟩
  · have hd:decide ((L.length:Int)<2)=false:=decide_eq_false (by omega)
    rcases h with⟨a,rfl,rfl⟩ | ⟨i,rfl,h1,h2,h3⟩
    · simp at hlt
    cases L with
    | nil=>simp at hlt
    | cons y R =>
      simp only[c88,c88o0,c88o1,c88o3,len_slice Try.underlying23,hd,Qa,Qb,Qc,Qd,Qe,Qf,Qg,Qh,Qi,Qj,Qk,Ql,Qm,Qn,true_and,and_true,Qo,Qp,Qq,Qr,Qs,Qt,Qu,Qv,Qw,Qx,Qy,Qz,Ra,Rb,Rc,Rd,Re,Rf,Rg,Rh,Ri,Rj,Rk,Rl,Rm,Ya,Yb,Yc,Rn,Ro,Rp,Yd,Ye,Rq,Rs,Rt,Ru,Rv,Rw,Rx]
      refine comp_out hE (n:=(y::R).length) h1 hL (.slice none 0 (some 0)) _ R [] y s _ _ _ _ _ _ (by simp;omega) h3 ?_
      rintro e s' W' G' y1 y2 y3 y4 y6 y7 y8 y9 (⟨rfl,rfl⟩ | ⟨rfl,rfl,hl⟩) f2 f3 f4 f5
      · simp only[Qa,Qb,Qc,Qd,Qe,Qf,Qg,Qh,Qi,Qj,Qk,Ql,Qm,Qn,true_and,and_true,Qo,Qp,Qq,Qr,Qs,Qt,Qu,Qv,Qw,Qx,Qy,Qz,Ra,Rb,Rc,Rd,Re,Rf,Rg,Rh,Ri,Rj,Rk,Rl,Rm,Ya,Yb,Yc,Rn,Ro,Rp,Yd,Ye,Rq,Rs,Rt,Ru,Rv,Rw,Rx]
        rw[show compV (y::R)=W' from f2.symm]
        exact⟨.inr ⟨i,G',rfl,h1,by omega,f3⟩,fun _ q=>q,f4,fun z hz=>f5 z fun e=>hz (by rw[e];rfl)⟩
      · simp only[c88o18,if_true,Qa,Qb,Qc,Qd,Qe,Qf,Qg,Qh,Qi,Qj,Qk,Ql,Qm,Qn,true_and,and_true,Qo,Qp,Qq,Qr,Qs,Qt,Qu,Qv,Qw,Qx,Qy,Qz,Ra,Rb,Rc,Rd,Re,Rf,Rg,Rh,Ri,Rj,Rk,Rl,Rm,Ya,Yb,Yc,Rn,Ro,Rp,Yd,Ye,Rq,Rs,Rt,Ru,Rv,Rw,Rx]
        rw[show compV (y::R)=W' from f2.symm]
        exact⟨.inr ⟨i,G',by rw[hl],h1,by omega,f3⟩,fun _ q=>q,f4,fun z hz=>f5 z fun e=>hz (by rw[e];rfl)⟩
theorem sort_at {E : Env} (hE : Good E) {lo : Nat} {s : ASt} {v : AV} {L : List Int} (h : IntArr lo s v L) (hL : L.length ≤ 12) :
    WF E 87 [v] (fun r s'=>IntArr lo s' v (sortV L)∧s'.next=s.next∧∀z,arrI v≠some z→s'.heap.get z=s.heap.get z) s:=by
  have h117:WF E 117 [v,iv 0,iv (L.length:Int)] (fun r s'=>IntArr lo s' v (sortV L)∧s'.next=s.next∧∀z,arrI v≠some z→s'.heap.get z=s.heap.get z) s:=by
    refine hE.go comp117 (by decide) rfl ?_
    have e3:=bin_add Try.prog 3 0 1 ⟨by omega,by omega⟩
    have e4:(0:Int)+1=1:=rfl
    rcases h with⟨a,rfl,rfl⟩ | ⟨i,rfl,h1,h2,h3⟩
    · simp only[c117,c117o0,e3,e4,List.length_nil,show((0:Nat):Int)=0 from rfl,Qa,Qb,Qc,Qd,Qe,Qf,Qg,Qh,Qi,Qj,Qk,Ql,Qm,Qn,true_and,and_true,Qo,Qp,Qq,Qr,Qs,Qt,Qu,Qv,Qw,Qx,Qy,Qz,Ra,Rb,Rc,Rd,Re,Rf,Rg,Rh,Ri,Rj,Rk,Rl,Rm,Ya,Yb,Yc,Rn,Ro,Rp,Yd,Ye,Rq,Rs,Rt,Ru,Rv,Rw,Rx]
      refine WC.loop' ?_
      simp only[c117l8,c117o1,show decide ((1:Int)<0)=false from rfl,if_true,Qa,Qb,Qc,Qd,Qe,Qf,Qg,Qh,Qi,Qj,Qk,Ql,Qm,Qn,true_and,and_true,Qo,Qp,Qq,Qr,Qs,Qt,Qu,Qv,Qw,Qx,Qy,Qz,Ra,Rb,Rc,Rd,Re,Rf,Rg,Rh,Ri,Rj,Rk,Rl,Rm,Ya,Yb,Yc,Rn,Ro,Rp,Yd,Ye,Rq,Rs,Rt,Ru,Rv,Rw,Rx]
      exact⟨.inl ⟨a,rfl,rfl⟩,fun _ _=>trivial⟩
    · simp only[c117,c117o0,e3,e4,Qa,Qb,Qc,Qd,Qe,Qf,Qg,Qh,Qi,Qj,Qk,Ql,Qm,Qn,true_and,and_true,Qo,Qp,Qq,Qr,Qs,Qt,Qu,Qv,Qw,Qx,Qy,Qz,Ra,Rb,Rc,Rd,Re,Rf,Rg,Rh,Ri,Rj,Rk,Rl,Rm,Ya,Yb,Yc,Rn,Ro,Rp,Yd,Ye,Rq,Rs,Rt,Ru,Rv,Rw,Rx]
      cases L with
      | nil =>
        refine WC.loop' ?_
        simp only[c117l8,c117o1,List.length_nil,show((0:Nat):Int)=0 from rfl,show decide ((1:Int)<0)=false from rfl,if_true,Qa,Qb,Qc,Qd,Qe,Qf,Qg,Qh,Qi,Qj,Qk,Ql,Qm,Qn,true_and,and_true,Qo,Qp,Qq,Qr,Qs,Qt,Qu,Qv,Qw,Qx,Qy,Qz,Ra,Rb,Rc,Rd,Re,Rf,Rg,Rh,Ri,Rj,Rk,Rl,Rm,Ya,Yb,Yc,Rn,Ro,Rp,Yd,Ye,Rq,Rs,Rt,Ru,Rv,Rw,Rx]
        exact⟨.inr ⟨i,rfl,h1,h2,h3⟩,fun _ _=>trivial⟩
      | cons x T =>
        refine sort_out hE h1 (n:=(x::T).length) (by omega) T [x] s 1 _ _ _ rfl (by simp;omega) h3 ?_
        intro s' y3 y4 y5 y6 g1 g2 g3
        simp only[if_true,Qa,Qb,Qc,Qd,Qe,Qf,Qg,Qh,Qi,Qj,Qk,Ql,Qm,Qn,true_and,and_true,Qo,Qp,Qq,Qr,Qs,Qt,Qu,Qv,Qw,Qx,Qy,Qz,Ra,Rb,Rc,Rd,Re,Rf,Rg,Rh,Ri,Rj,Rk,Rl,Rm,Ya,Yb,Yc,Rn,Ro,Rp,Yd,Ye,Rq,Rs,Rt,Ru,Rv,Rw,Rx]
        exact⟨.inr ⟨i,by rw[sortV_len],h1,by omega,g1⟩,g2,fun z hz=>g3 z fun e=>hz (by rw[e];rfl)⟩
  have h108:∀m:Int,WF E 108 [v,iv 0,iv (L.length:Int),iv m] (fun r s'=>IntArr lo s' v (sortV L)∧s'.next=s.next∧∀z,arrI v≠some z→s'.heap.get z=s.heap.get z) s:=by
    intro m
    refine hE.go comp108 (by decide) rfl ?_
    have e3:=bin_sub Try.prog 3 (L.length:Int) 0 ⟨by omega,by omega⟩
    have e4:(L.length:Int) - 0=(L.length:Int):=by omega
    have e5:decide ((L.length:Int)≤12)=true:=decide_eq_true (by omega)
    simp only[c108,c108o0,c108o1,Qa,Qb,Qc,Qd,Qe,Qf,Qg,Qh,Qi,Qj,Qk,Ql,Qm,Qn,true_and,and_true,Qo,Qp,Qq,Qr,Qs,Qt,Qu,Qv,Qw,Qx,Qy,Qz,Ra,Rb,Rc,Rd,Re,Rf,Rg,Rh,Ri,Rj,Rk,Rl,Rm,Ya,Yb,Yc,Rn,Ro,Rp,Yd,Ye,Rq,Rs,Rt,Ru,Rv,Rw,Rx]
    refine WC.loop' ?_
    generalize WC E none (CCode.loop c108l31) _=W
    simp only[c108l31,c108o2,c108o3,c108o4,e3,e4,e5,Qa,Qb,Qc,Qd,Qe,Qf,Qg,Qh,Qi,Qj,Qk,Ql,Qm,Qn,true_and,and_true,Qo,Qp,Qq,Qr,Qs,Qt,Qu,Qv,Qw,Qx,Qy,Qz,Ra,Rb,Rc,Rd,Re,Rf,Rg,Rh,Ri,Rj,Rk,Rl,Rm,Ya,Yb,Yc,Rn,Ro,Rp,Yd,Ye,Rq,Rs,Rt,Ru,Rv,Rw,Rx]
    refine h117.mono ?_
    rintro r s' h'
    simp only[Qa,Qb,Qc,Qd,Qe,Qf,Qg,Qh,Qi,Qj,Qk,Ql,Qm,Qn,true_and,and_true,Qo,Qp,Qq,Qr,Qs,Qt,Qu,Qv,Qw,Qx,Qy,Qz,Ra,Rb,Rc,Rd,Re,Rf,Rg,Rh,Ri,Rj,Rk,Rl,Rm,Ya,Yb,Yc,Rn,Ro,Rp,Yd,Ye,Rq,Rs,Rt,Ru,Rv,Rw,Rx]
    exact h'
  refine hE.go comp87 (by decide) rfl ?_
  simp only[c87,c87o0,c87o1,h.len,conv_u64 hL,Qa,Qb,Qc,Qd,Qe,Qf,Qg,Qh,Qi,Qj,Qk,Ql,Qm,Qn,true_and,and_true,Qo,Qp,Qq,Qr,Qs,Qt,Qu,Qv,Qw,Qx,Qy,Qz,Ra,Rb,Rc,Rd,Re,Rf,Rg,Rh,Ri,Rj,Rk,Rl,Rm,Ya,Yb,Yc,Rn,Ro,Rp,Yd,Ye,Rq,Rs,Rt,Ru,Rv,Rw,Rx]
  refine(len_ok hE L.length hL).mono ?_
  rintro _ _ ⟨⟨m,rfl⟩,rfl⟩
  simp only[Qa,Qb,Qc,Qd,Qe,Qf,Qg,Qh,Qi,Qj,Qk,Ql,Qm,Qn,true_and,and_true,Qo,Qp,Qq,Qr,Qs,Qt,Qu,Qv,Qw,Qx,Qy,Qz,Ra,Rb,Rc,Rd,Re,Rf,Rg,Rh,Ri,Rj,Rk,Rl,Rm,Ya,Yb,Yc,Rn,Ro,Rp,Yd,Ye,Rq,Rs,Rt,Ru,Rv,Rw,Rx]
  refine(h108 m).mono ?_
  rintro r s' h'
  simp only[Qa,Qb,Qc,Qd,Qe,Qf,Qg,Qh,Qi,Qj,Qk,Ql,Qm,Qn,true_and,and_true,Qo,Qp,Qq,Qr,Qs,Qt,Qu,Qv,Qw,Qx,Qy,Qz,Ra,Rb,Rc,Rd,Re,Rf,Rg,Rh,Ri,Rj,Rk,Rl,Rm,Ya,Yb,Yc,Rn,Ro,Rp,Yd,Ye,Rq,Rs,Rt,Ru,Rv,Rw,Rx]
  exact h'
theorem containsf_ok{E:Env}(hE:Good E){s:ASt}{b:Nat}{L:List Int}{f:Int→Bool}{g:FuncId}{cp:List AV}(hg:∀q∈L,WF E g (iv q::cp) (fun r s'=>r=.bool (f q)∧s=s') s)(hlen:L.length<9223372036854775808){v:AV}(hv:SliceAt b s v (ivs L)):
    WF E 72 [v,.func g [] cp] (fun r s'=>r=.bool (firstI f L 0).isSome∧s=s') s:=by
  refine hE.go comp72 (by decide) rfl ?_
  simp only[c72,c72o0,c72o1,Qa,Qb,Qc,Qd,Qe,Qf,Qg,Qh,Qi,Qj,Qk,Ql,Qm,Qn,true_and,and_true,Qo,Qp,Qq,Qr,Qs,Qt,Qu,Qv,Qw,Qx,Qy,Qz,Ra,Rb,Rc,Rd,Re,Rf,Rg,Rh,Ri,Rj,Rk,Rl,Rm,Ya,Yb,Yc,Rn,Ro,Rp,Yd,Ye,Rq,Rs,Rt,Ru,Rv,Rw,Rx]
  refine(findex_ok hE hg hlen hv).mono ?_
  rintro _ _ ⟨rfl,rfl⟩
  cases hf:firstI f L 0 with
  | none=>simp only[idxV,show decide ((0:Int)≤-1)=false from rfl,Option.isSome,Qa,Qb,Qc,Qd,Qe,Qf,Qg,Qh,Qi,Qj,Qk,Ql,Qm,Qn,true_and,and_true,Qo,Qp,Qq,Qr,Qs,Qt,Qu,Qv,Qw,Qx,Qy,Qz,Ra,Rb,Rc,Rd,Re,Rf,Rg,Rh,Ri,Rj,Rk,Rl,Rm,Ya,Yb,Yc,Rn,Ro,Rp,Yd,Ye,Rq,Rs,Rt,Ru,Rv,Rw,Rx]
  | some i=>simp only[idxV,show decide ((0:Int)≤(i:Int))=true from decide_eq_true (by omega),Option.isSome,Qa,Qb,Qc,Qd,Qe,Qf,Qg,Qh,Qi,Qj,Qk,Ql,Qm,Qn,true_and,and_true,Qo,Qp,Qq,Qr,Qs,Qt,Qu,Qv,Qw,Qx,Qy,Qz,Ra,Rb,Rc,Rd,Re,Rf,Rg,Rh,Ri,Rj,Rk,Rl,Rm,Ya,Yb,Yc,Rn,Ro,Rp,Yd,Ye,Rq,Rs,Rt,Ru,Rv,Rw,Rx]
theorem firstI_some{f:Int→Bool}:∀ {L:List Int}{k:Nat},(firstI f L k).isSome=true↔∃q∈L,f q=true
  | [],k=>by simp[firstI]
  | x::L,k=>by
    unfold firstI
    by_cases h:f x=true
    · simp[h]
    · rw[if_neg h,firstI_some]
      simp[h]
theorem ixe_loop{E:Env}(hE:Good E){s:ASt}{b:Nat}{L:List Int}{y:Int}(hlen:L.length<9223372036854775808){a:Option (Nat×Nat)}{cap:Option Nat}(hc:CellsAt b s a (ivs L)){Q:ARes→Prop}(x2:AV):
    ∀ (l : List Int) (k : Nat) (x3 x6 x7 : AV), L.drop k = l → k ≤ L.length →
      (firstI (fun q=>decide (y=q)) l k=none→∀ (y3 y5 y6 y7:AV),Q ⟨.exit 0,[.slice a L.length cap,iv y,x2,y3,iv (L.length:Int),y5,y6,y7],[],s⟩) →
      (∀i,firstI (fun q=>decide (y=q)) l k=some i→∀ (y3 y5 y6 y7:AV),Q ⟨.ret,[.slice a L.length cap,iv y,iv (i:Int),y3,iv (L.length:Int),y5,y6,y7],[],s⟩) →
      WC E none (.loop c113l7) Q [.slice a L.length cap,iv y,x2,x3,iv (L.length:Int),iv (k:Int),x6,x7] [] s:=by
  intro l
  induction l with
  | nil =>
    intro k x3 x6 x7 hd hk hq _
    have:=drop_end hd hk
    subst this
    refine WC.loop' ?_
    simp only[c113l7,c113o2,Int.lt_irrefl,decide_false,Qa,Qb,Qc,Qd,Qe,Qf,Qg,Qh,Qi,Qj,Qk,Ql,Qm,Qn,true_and,and_true,Qo,Qp,Qq,Qr,Qs,Qt,Qu,Qv,Qw,Qx,Qy,Qz,Ra,Rb,Rc,Rd,Re,Rf,Rg,Rh,Ri,Rj,Rk,Rl,Rm,Ya,Yb,Yc,Rn,Ro,Rp,Yd,Ye,Rq,Rs,Rt,Ru,Rv,Rw,Rx]
    exact hq rfl _ _ _ _
  | cons x l ih =>
    intro k x3 x6 x7 hd hk hq hr
    obtain⟨hlt,hx,hd'⟩:=drop_facts hd
    obtain⟨i,o,rfl,hi,hload⟩:=hc k _ (get_ivs hx)
    have e1:=idx_slice (cap:=cap) (i:=i) (o:=o) Try.underlying23 sz3 hlt
    have e2:loadV Try.prog s 3 (.ptr (some (i,o+k * 1)))=some (iv x):=load_one ag3 (by rw[Nat.mul_one];exact hload)
    have hkk:decide ((k:Int)<(L.length:Int))=true:=decide_eq_true (by omega)
    have e3:=bin_add Try.prog 3 (k:Int) 1 ⟨by omega,by omega⟩
    have e3':((k:Int)+1)=((k+1:Nat):Int):=by omega
    refine WC.loop' ?_
    generalize hW:WC E none (CCode.loop c113l7) Q=WW
    by_cases hf:y=x
    · have ef : firstI (fun q => decide (y = q)) (x :: l) k = some k := by unfold firstI; rw [if_pos (decide_eq_true hf)]
      have hd1:decide (y=x)=true:=decide_eq_true hf
      simp only[c113l7,c113o2,c113o3,c113o4,hkk,e1,e2,hd1,c113o5,Qa,Qb,Qc,Qd,Qe,Qf,Qg,Qh,Qi,Qj,Qk,Ql,Qm,Qn,true_and,and_true,Qo,Qp,Qq,Qr,Qs,Qt,Qu,Qv,Qw,Qx,Qy,Qz,Ra,Rb,Rc,Rd,Re,Rf,Rg,Rh,Ri,Rj,Rk,Rl,Rm,Ya,Yb,Yc,Rn,Ro,Rp,Yd,Ye,Rq,Rs,Rt,Ru,Rv,Rw,Rx]
      exact hr k ef _ _ _ _
    · have hd1 : decide (y = x) = false := decide_eq_false hf
      have ef:firstI (fun q=>decide (y=q)) (x::l) k=firstI (fun q=>decide (y=q)) l (k+1):=by rw[firstI,if_neg (by rw[hd1];decide)]
      simp only[c113l7,c113o2,c113o3,c113o4,hkk,e1,e2,hd1,c113o6,e3,e3',Qa,Qb,Qc,Qd,Qe,Qf,Qg,Qh,Qi,Qj,Qk,Ql,Qm,Qn,true_and,and_true,Qo,Qp,Qq,Qr,Qs,Qt,Qu,Qv,Qw,Qx,Qy,Qz,Ra,Rb,Rc,Rd,Re,Rf,Rg,Rh,Ri,Rj,Rk,Rl,Rm,Ya,Yb,Yc,Rn,Ro,Rp,Yd,Ye,Rq,Rs,Rt,Ru,Rv,Rw,Rx]
      rw[← hW]
      rw[ef]at hq hr
      exact ih (k+1) _ _ _ hd' hlt hq hr
theorem contains_ok{E:Env}(hE:Good E){s:ASt}{b:Nat}{L:List Int}{y:Int}(hlen:L.length<9223372036854775808){v:AV}(hv:SliceAt b s v (ivs L)):
    WF E 101 [v,iv y] (fun r s'=>r=.bool (decide (y∈L))∧s=s') s:=by
  obtain⟨a,cap,rfl,hc⟩:=hv
  rw[ivs_len]
  have hmem:(firstI (fun q=>decide (y=q)) L 0).isSome=decide (y∈L):=by
    rw[Bool.eq_iff_iff,firstI_some]
    simp
  have ix:WF E 113 [.slice a L.length cap,iv y] (fun r s'=>r=idxV (firstI (fun q=>decide (y=q)) L 0)∧s=s') s:=by
    refine hE.go comp113 (by decide) rfl ?_
    simp only[c113,c113o0,c113o1,len_slice Try.underlying23,Qa,Qb,Qc,Qd,Qe,Qf,Qg,Qh,Qi,Qj,Qk,Ql,Qm,Qn,true_and,and_true,Qo,Qp,Qq,Qr,Qs,Qt,Qu,Qv,Qw,Qx,Qy,Qz,Ra,Rb,Rc,Rd,Re,Rf,Rg,Rh,Ri,Rj,Rk,Rl,Rm,Ya,Yb,Yc,Rn,Ro,Rp,Yd,Ye,Rq,Rs,Rt,Ru,Rv,Rw,Rx]
    refine ixe_loop hE hlen hc _ L 0 _ _ _ rfl (Nat.zero_le _) ?_ ?_
    · intro hn y3 y5 y6 y7
      rw[hn]
      simp only[c113o8,if_true,idxV,Qa,Qb,Qc,Qd,Qe,Qf,Qg,Qh,Qi,Qj,Qk,Ql,Qm,Qn,true_and,and_true,Qo,Qp,Qq,Qr,Qs,Qt,Qu,Qv,Qw,Qx,Qy,Qz,Ra,Rb,Rc,Rd,Re,Rf,Rg,Rh,Ri,Rj,Rk,Rl,Rm,Ya,Yb,Yc,Rn,Ro,Rp,Yd,Ye,Rq,Rs,Rt,Ru,Rv,Rw,Rx]
    · intro i hi y3 y5 y6 y7
      rw[hi]
      simp only[idxV,Qa,Qb,Qc,Qd,Qe,Qf,Qg,Qh,Qi,Qj,Qk,Ql,Qm,Qn,true_and,and_true,Qo,Qp,Qq,Qr,Qs,Qt,Qu,Qv,Qw,Qx,Qy,Qz,Ra,Rb,Rc,Rd,Re,Rf,Rg,Rh,Ri,Rj,Rk,Rl,Rm,Ya,Yb,Yc,Rn,Ro,Rp,Yd,Ye,Rq,Rs,Rt,Ru,Rv,Rw,Rx]
  refine hE.go comp101 (by decide) rfl ?_
  simp only[c101,c101o0,c101o1,Qa,Qb,Qc,Qd,Qe,Qf,Qg,Qh,Qi,Qj,Qk,Ql,Qm,Qn,true_and,and_true,Qo,Qp,Qq,Qr,Qs,Qt,Qu,Qv,Qw,Qx,Qy,Qz,Ra,Rb,Rc,Rd,Re,Rf,Rg,Rh,Ri,Rj,Rk,Rl,Rm,Ya,Yb,Yc,Rn,Ro,Rp,Yd,Ye,Rq,Rs,Rt,Ru,Rv,Rw,Rx]
  refine ix.mono ?_
  rintro _ _ ⟨rfl,rfl⟩
  rw[← hmem]
  cases hf:firstI (fun q=>decide (y=q)) L 0 with
  | none=>simp only[idxV,show decide ((0:Int)≤-1)=false from rfl,Option.isSome,Qa,Qb,Qc,Qd,Qe,Qf,Qg,Qh,Qi,Qj,Qk,Ql,Qm,Qn,true_and,and_true,Qo,Qp,Qq,Qr,Qs,Qt,Qu,Qv,Qw,Qx,Qy,Qz,Ra,Rb,Rc,Rd,Re,Rf,Rg,Rh,Ri,Rj,Rk,Rl,Rm,Ya,Yb,Yc,Rn,Ro,Rp,Yd,Ye,Rq,Rs,Rt,Ru,Rv,Rw,Rx]
  | some i=>simp only[idxV,show decide ((0:Int)≤(i:Int))=true from decide_eq_true (by omega),Option.isSome,Qa,Qb,Qc,Qd,Qe,Qf,Qg,Qh,Qi,Qj,Qk,Ql,Qm,Qn,true_and,and_true,Qo,Qp,Qq,Qr,Qs,Qt,Qu,Qv,Qw,Qx,Qy,Qz,Ra,Rb,Rc,Rd,Re,Rf,Rg,Rh,Ri,Rj,Rk,Rl,Rm,Ya,Yb,Yc,Rn,Ro,Rp,Yd,Ye,Rq,Rs,Rt,Ru,Rv,Rw,Rx]
def ownV(L:List Int):List Int:=compV (sortV L)
def tautV(L:List Int):Bool:=(firstI (fun q=>decide (-q∈L)) L 0).isSome
theorem tautV_iff{L:List Int}:tautV L=true↔∃q∈L,-q∈L:=by
  unfold tautV
  rw[firstI_some]
  simp
theorem compV_mem : ∀ {L : List Int} {z : Int}, z ∈ compV L → z ∈ L := by
  have h:∀ (l:List Int) (p z:Int),z∈dd p l→z∈l:=by
    intro l
    induction l with
    | nil=>intro p z h;simp[dd]at h
    | cons x l ih =>
      intro p z h
      unfold dd at h
      split at h
      · exact List.mem_cons_of_mem _ (ih _ _ h)
      · rcases List.mem_cons.1 h with e | e
        · rw[e];exact List.mem_cons_self ..
        · exact List.mem_cons_of_mem _ (ih _ _ e)
  intro L z hz
  cases L with
  | nil=>exact hz
  | cons x r =>
    rcases List.mem_cons.1 hz with e | e
    · rw[e];exact List.mem_cons_self ..
    · exact List.mem_cons_of_mem _ (h _ _ _ e)
theorem compV_len:∀ (L:List Int),(compV L).length≤L.length:=by
  have h:∀ (l:List Int) (p:Int),(dd p l).length≤l.length:=by
    intro l
    induction l with
    | nil=>intro p;simp[dd]
    | cons x l ih =>
      intro p
      unfold dd
      split
      · have:=ih p;simp;omega
      · have:=ih x;simp;omega
  intro L
  cases L with
  | nil=>exact Nat.le_refl _
  | cons x r=>have:=h r x;simp[compV];omega
theorem sortV_mem(L:List Int)(z:Int):z∈sortV L↔z∈L:=by
  unfold sortV
  rw[List.mem_reverse,(foldDown L (q:=[]) List.Pairwise.nil).2]
  simp
theorem ownV_mem'{L:List Int}{z:Int}(h:z∈ownV L):z∈L:=(sortV_mem L z).1 (compV_mem h)
theorem ownV_len(L:List Int):(ownV L).length≤L.length:=by
  have:=compV_len (sortV L)
  rw[sortV_len]at this
  exact this
theorem bare1_ok{E:Env}(hE:Good E){s:ASt}{b j:Nat}{L:List Int}{v:AV}(hv:SliceAt b s v (ivs L))(hb:Box1 s j v)(hlen:L.length<9223372036854775808){q:Int}(hq:i64 (-q)):
    WF E 100 [iv q,.ptr (some (j,0))] (fun r s'=>r=.bool (decide (-q∈L))∧s=s') s:=by
  have e1:=un_neg Try.prog q hq
  refine hE.go comp100 (by decide) rfl ?_
  simp only[c100,c100o0,c100o1,hb.load ag23,e1,Qa,Qb,Qc,Qd,Qe,Qf,Qg,Qh,Qi,Qj,Qk,Ql,Qm,Qn,true_and,and_true,Qo,Qp,Qq,Qr,Qs,Qt,Qu,Qv,Qw,Qx,Qy,Qz,Ra,Rb,Rc,Rd,Re,Rf,Rg,Rh,Ri,Rj,Rk,Rl,Rm,Ya,Yb,Yc,Rn,Ro,Rp,Yd,Ye,Rq,Rs,Rt,Ru,Rv,Rw,Rx]
  refine(contains_ok hE hlen hv).mono ?_
  rintro _ _ ⟨rfl,rfl⟩
  simp only[Qa,Qb,Qc,Qd,Qe,Qf,Qg,Qh,Qi,Qj,Qk,Ql,Qm,Qn,true_and,and_true,Qo,Qp,Qq,Qr,Qs,Qt,Qu,Qv,Qw,Qx,Qy,Qz,Ra,Rb,Rc,Rd,Re,Rf,Rg,Rh,Ri,Rj,Rk,Rl,Rm,Ya,Yb,Yc,Rn,Ro,Rp,Yd,Ye,Rq,Rs,Rt,Ru,Rv,Rw,Rx]
theorem bare_ok{E:Env}(hE:Good E){s:ASt}{b:Nat}{L:List Int}(hlen:L.length≤12)(hi:∀q∈L,i64 (-q))(hb:b≤s.next){v:AV}(hv:SliceAt b s v (ivs L)):
    WF E 74 [v] (fun r s'=>∃w,r=.tuple [w,.bool (!tautV (ownV L))]∧IntBuf s.next s' w (ownV L)∧Old s.next s s') s:=by
  have hptr:∀i,Made.val i .ptr=.ptr (some (i,0)):=fun _=>rfl
  refine hE.go comp74 (by decide) rfl ?_
  simp only[c74,c74o0,c74o1,Qa,Qb,Qc,Qd,Qe,Qf,Qg,Qh,Qi,Qj,Qk,Ql,Qm,Qn,true_and,and_true,Qo,Qp,Qq,Qr,Qs,Qt,Qu,Qv,Qw,Qx,Qy,Qz,Ra,Rb,Rc,Rd,Re,Rf,Rg,Rh,Ri,Rj,Rk,Rl,Rm,Ya,Yb,Yc,Rn,Ro,Rp,Yd,Ye,Rq,Rs,Rt,Ru,Rv,Rw,Rx]
  refine(clone_ok hE hb hv (by omega)).mono ?_
  rintro v1 s1 ⟨h1,o1⟩
  generalize e2:newObj s1 (mkRow 23 0 [.slice none 0 (some 0)])=s2
  have n2:s2.next=s1.next+1:=by rw[← e2];rfl
  have o2:Old s1.next s1 s2:=by rw[← e2];exact Old.new s1 _
  have b2:Box1 s2 s1.next (.slice none 0 (some 0)):=by rw[← e2];exact Box1.new
  obtain⟨s3,g1,g2,g3,g4⟩:=b2.store (d:=v1) sz23 h1.slice.isCell.1 h1.slice.isCell.2
  have hn1:=o1.1
  have h3:IntArr s.next s3 v1 L:=by
    rcases h1 with h1 | ⟨i,r1,r2,r3,r4⟩
    · exact .inl h1
    · exact .inr ⟨i,r1,r2,by omega,(r4.keep (o2.2 i r3)).keep (g4 i (by omega))⟩
  have o3:Old s.next s s3:=(o1.trans (o2.mono (by omega))).trans ⟨by omega,fun y hy=>g4 y (by omega)⟩
  simp only[alloc23,hptr,e2,on2,g1,withV,c74o2,g2.load ag23,Qa,Qb,Qc,Qd,Qe,Qf,Qg,Qh,Qi,Qj,Qk,Ql,Qm,Qn,true_and,and_true,Qo,Qp,Qq,Qr,Qs,Qt,Qu,Qv,Qw,Qx,Qy,Qz,Ra,Rb,Rc,Rd,Re,Rf,Rg,Rh,Ri,Rj,Rk,Rl,Rm,Ya,Yb,Yc,Rn,Ro,Rp,Yd,Ye,Rq,Rs,Rt,Ru,Rv,Rw,Rx]
  refine(sort_at hE h3 hlen).mono ?_
  rintro r4 s4 ⟨h4,n4,f4⟩
  have hne:arrI v1≠some s1.next:=fun e=>by
    rcases h1 with⟨a,r1,r2⟩ | ⟨i,r1,r2,r3,r4⟩
    · rw[r1]at e
      cases a<;>cases e
    · rw[r1]at e
      injection e with e
      omega
  have hlo:∀z,z<s.next→arrI v1≠some z:=fun z hz e=>by
    rcases h1 with⟨a,r1,r2⟩ | ⟨i,r1,r2,r3,r4⟩
    · rw[r1]at e
      cases a<;>cases e
    · rw[r1]at e
      injection e with e
      omega
  have b4:Box1 s4 s1.next v1:=g2.keep (f4 _ hne)
  have o4:Old s.next s s4:=o3.trans ⟨by omega,fun y hy=>f4 y (hlo y hy)⟩
  simp only[c74o3,b4.load ag23,Qa,Qb,Qc,Qd,Qe,Qf,Qg,Qh,Qi,Qj,Qk,Ql,Qm,Qn,true_and,and_true,Qo,Qp,Qq,Qr,Qs,Qt,Qu,Qv,Qw,Qx,Qy,Qz,Ra,Rb,Rc,Rd,Re,Rf,Rg,Rh,Ri,Rj,Rk,Rl,Rm,Ya,Yb,Yc,Rn,Ro,Rp,Yd,Ye,Rq,Rs,Rt,Ru,Rv,Rw,Rx]
  refine(comp_buf hE h4 (by rw[sortV_len];omega)).mono ?_
  rintro w s5 ⟨h5,hi5,n5,f5⟩
  have b5:Box1 s5 s1.next v1:=b4.keep (f5 _ hne)
  have o5:Old s.next s s5:=o4.trans ⟨by omega,fun y hy=>f5 y (hlo y hy)⟩
  obtain⟨s6,k1,k2,k3,k4⟩:=b5.store (d:=w) sz23 h5.slice.isCell.1 h5.slice.isCell.2
  have h6:IntBuf s.next s6 w (ownV L):=by
    rcases h5 with h5 | ⟨i,G,r1,r2,r3,r4⟩
    · exact .inl h5
    · refine .inr ⟨i,G,r1,r2,by omega,r4.keep (k4 i fun e=>?_)⟩
      exact hne (by rw[← e];exact hi5 i (by rw[r1];rfl))
  have o6:Old s.next s s6:=o5.trans ⟨by omega,fun y hy=>k4 y (by omega)⟩
  have hlen6:=ownV_len L
  simp only[on2,k1,withV,c74o4,k2.load ag23,List.take_zero,List.drop_zero,Qa,Qb,Qc,Qd,Qe,Qf,Qg,Qh,Qi,Qj,Qk,Ql,Qm,Qn,true_and,and_true,Qo,Qp,Qq,Qr,Qs,Qt,Qu,Qv,Qw,Qx,Qy,Qz,Ra,Rb,Rc,Rd,Re,Rf,Rg,Rh,Ri,Rj,Rk,Rl,Rm,Ya,Yb,Yc,Rn,Ro,Rp,Yd,Ye,Rq,Rs,Rt,Ru,Rv,Rw,Rx]
  refine(containsf_ok hE (f:=fun q=>decide (-q∈ownV L)) (g:=100) (cp:=[.ptr (some (s1.next,0))]) (fun q hq=>?_) (by omega) h6.slice).mono ?_
  · exact bare1_ok hE h6.slice k2 (by omega) (hi q (ownV_mem' hq))
  rintro _ _ ⟨rfl,rfl⟩
  simp only[again_r1,sameA_some,k2.load ag23,h6.self,Qa,Qb,Qc,Qd,Qe,Qf,Qg,Qh,Qi,Qj,Qk,Ql,Qm,Qn,true_and,and_true,Qo,Qp,Qq,Qr,Qs,Qt,Qu,Qv,Qw,Qx,Qy,Qz,Ra,Rb,Rc,Rd,Re,Rf,Rg,Rh,Ri,Rj,Rk,Rl,Rm,Ya,Yb,Yc,Rn,Ro,Rp,Yd,Ye,Rq,Rs,Rt,Ru,Rv,Rw,Rx]
  exact⟨w,rfl,h6,o6⟩
def downC(c:Int→Int→Int)(x:Int):List Int→List Int
  | []=>[x]
  | y::q=>if c x y<0 then y::downC c x q else x::y::q
def stabV(c:Int→Int→Int)(L:List Int):List Int:=(L.foldl (fun q x=>downC c x q) []).reverse
theorem downC_len(c:Int→Int→Int)(x:Int):∀q,(downC c x q).length=q.length+1
  | []=>rfl
  | y::q=>by
    unfold downC
    split
    · simp[downC_len c x q]
    · simp
theorem downC_mem (c : Int → Int → Int) (x z : Int) : ∀ q, z ∈ downC c x q ↔ z = x ∨ z ∈ q
  | []=>by simp[downC]
  | y::q=>by
    unfold downC
    split
    · rw[List.mem_cons,downC_mem c x z q,List.mem_cons]
      constructor
      · rintro (h | h | h)
        · exact .inr (.inl h)
        · exact .inl h
        · exact .inr (.inr h)
      · rintro (h | h | h)
        · exact .inr (.inl h)
        · exact .inl h
        · exact .inr (.inr h)
    · simp
theorem fold_len(c:Int→Int→Int):∀ (R q:List Int),(R.foldl (fun q x=>downC c x q) q).length=q.length+R.length
  | [],q=>rfl
  | y::R,q=>by simp only[List.foldl_cons,fold_len c R,downC_len,List.length_cons];omega
theorem fold_mem(c:Int→Int→Int)(z:Int):∀ (R q:List Int),z∈R.foldl (fun q x=>downC c x q) q↔z∈q∨z∈R
  | [],q=>by simp
  | y::R,q=>by
    rw[List.foldl_cons,fold_mem c z R,downC_mem,List.mem_cons]
    constructor
    · rintro ((h | h) | h)
      · exact .inr (.inl h)
      · exact .inl h
      · exact .inr (.inr h)
    · rintro (h | h | h)
      · exact .inl (.inr h)
      · exact .inl (.inl h)
      · exact .inr h
theorem stabV_len(c:Int→Int→Int)(L:List Int):(stabV c L).length=L.length:=by
  unfold stabV
  rw[List.length_reverse,fold_len];simp
theorem stabV_mem(c:Int→Int→Int)(L:List Int)(z:Int):z∈stabV c L↔z∈L:=by
  unfold stabV
  rw[List.mem_reverse,fold_mem];simp
theorem ssort_in {E : Env} (hE : Good E) {i n m : Nat} (hn : n ≤ 1000) {s0 : ASt} {P : Int → Prop} {c : Int → Int → Int} {g : FuncId} {cp : List AV} (hg : ∀ s a b, (∀ z, z ≠ i → s.heap.get z = s0.heap.get z) → s.next = s0.next → P a → P b → WF E g (iv a :: iv b :: cp) (fun r s' => r = iv (c a b) ∧ s = s') s) (x : Int) (hx : P x) {Q : ARes → Prop} :
    ∀ (p : List Int) (T : List AV) (s : ASt) (x5 x7 : AV), p.length < n → (∀ y ∈ p, P y) → (∀ z, z ≠ i → s.heap.get z = s0.heap.get z) → s.next = s0.next → RowAt s i (ivs (p.reverse ++ [x]) ++ T) →
      (∀s' y5 y7,RowAt s' i (ivs (downC c x p).reverse++T)→s'.next=s0.next→(∀z,z≠i→s'.heap.get z=s0.heap.get z)→Q ⟨.exit 2,[.slice (some (i,0)) n none,iv 0,iv (n:Int),.func g [] cp,iv (m:Int),y5,x5,y7],[],s'⟩) →
      WC E none (.loop c114l6) Q [.slice (some (i,0)) n none,iv 0,iv (n:Int),.func g [] cp,iv (m:Int),iv (p.length:Int),x5,x7] [] s:=by
  intro p
  induction p with
  | nil =>
    intro T s x5 x7 h1 hp hf hnx hr hq
    refine WC.loop' ?_
    simp only[c114l6,c114o3,List.length_nil,show((0:Nat):Int)=0 from rfl,Int.lt_irrefl,decide_false,Qa,Qb,Qc,Qd,Qe,Qf,Qg,Qh,Qi,Qj,Qk,Ql,Qm,Qn,true_and,and_true,Qo,Qp,Qq,Qr,Qs,Qt,Qu,Qv,Qw,Qx,Qy,Qz,Ra,Rb,Rc,Rd,Re,Rf,Rg,Rh,Ri,Rj,Rk,Rl,Rm,Ya,Yb,Yc,Rn,Ro,Rp,Yd,Ye,Rq,Rs,Rt,Ru,Rv,Rw,Rx]
    exact hq s _ _ hr hnx hf
  | cons y q ih =>
    intro T s x5 x7 h1 hp hf hnx hr hq
    have hj:(y::q).length=q.length+1:=rfl
    rw[hj]at h1 ⊢
    have hcells:ivs ((y::q).reverse++[x])++T=ivs q.reverse++iv y::(iv x::T):=by simp
    have hcells2:ivs ((y::q).reverse++[x])++T=(ivs q.reverse++[iv y])++iv x::T:=by simp
    have hql:(ivs q.reverse).length=q.length:=by simp
    have hql2:(ivs q.reverse++[iv y]).length=q.length+1:=by simp
    have hgt:decide ((0:Int)<((q.length+1:Nat):Int))=true:=decide_eq_true (by omega)
    have a1:indexAddrA Try.prog 23 (.slice (some (i,0)) n none) (iv ((q.length+1:Nat):Int))=some (.ptr (some (i,0+(q.length+1) * 1))):=idx_slice Try.underlying23 sz3 (by omega)
    have a0:indexAddrA Try.prog 23 (.slice (some (i,0)) n none) (iv ((q.length:Nat):Int))=some (.ptr (some (i,0+q.length * 1))):=idx_slice Try.underlying23 sz3 (by omega)
    have l1:loadV Try.prog s 3 (.ptr (some (i,0+(q.length+1) * 1)))=some (iv x):=hr.load (by rw[hcells2];exact get_mid hql2)
    have l0:loadV Try.prog s 3 (.ptr (some (i,0+q.length * 1)))=some (iv y):=hr.load (by rw[hcells];exact get_mid hql)
    have hs:=bin_sub Try.prog 3 ((q.length+1:Nat):Int) 1 ⟨by omega,by omega⟩
    have hs1:(((q.length+1:Nat):Int) - 1)=((q.length:Nat):Int):=by omega
    rw[hs1]at hs
    refine WC.loop' ?_
    generalize hW:WC E none (CCode.loop c114l6) Q=W
    simp only[c114l6,c114o3,hgt,a1,l1,hs,a0,l0,List.nil_append,List.cons_append,List.append_nil,Qa,Qb,Qc,Qd,Qe,Qf,Qg,Qh,Qi,Qj,Qk,Ql,Qm,Qn,true_and,and_true,Qo,Qp,Qq,Qr,Qs,Qt,Qu,Qv,Qw,Qx,Qy,Qz,Ra,Rb,Rc,Rd,Re,Rf,Rg,Rh,Ri,Rj,Rk,Rl,Rm,Ya,Yb,Yc,Rn,Ro,Rp,Yd,Ye,Rq,Rs,Rt,Ru,Rv,Rw,Rx]
    refine(hg s x y hf hnx hx (hp y (List.mem_cons_self ..))).mono ?_
    rintro _ _ ⟨rfl,rfl⟩
    by_cases h:c x y<0
    · rw[hcells2]at hr
      obtain⟨s1,g1,g2,g3,g4⟩:=hr.store (k:=q.length+1) (u:=iv y) hql2 rfl rfl
      have e1:(ivs q.reverse++[iv y])++iv y::T=ivs q.reverse++iv y::(iv y::T):=by simp
      rw[e1]at g2
      obtain⟨s2,k1,k2,k3,k4⟩:=g2.store (k:=q.length) (u:=iv x) hql rfl rfl
      simp only[h,decide_true,c114o4,c114o5,a1,l1,hs,a0,l0,on2,g1,k1,withV,Qa,Qb,Qc,Qd,Qe,Qf,Qg,Qh,Qi,Qj,Qk,Ql,Qm,Qn,true_and,and_true,Qo,Qp,Qq,Qr,Qs,Qt,Qu,Qv,Qw,Qx,Qy,Qz,Ra,Rb,Rc,Rd,Re,Rf,Rg,Rh,Ri,Rj,Rk,Rl,Rm,Ya,Yb,Yc,Rn,Ro,Rp,Yd,Ye,Rq,Rs,Rt,Ru,Rv,Rw,Rx]
      rw[← hW]
      have e2:downC c x (y::q)=y::downC c x q:=by simp[downC,h]
      refine ih (iv y::T) s2 x5 _ (by omega) (fun z hz=>hp z (List.mem_cons_of_mem _ hz)) (fun z hz=>(k4 z hz).trans ((g4 z hz).trans (hf z hz))) (by omega) ?_ ?_
      · have e3:ivs (q.reverse++[x])++iv y::T=ivs q.reverse++iv x::(iv y::T):=by simp
        rw[e3];exact k2
      · intro s' y5 y7 f1 f2 f3
        refine hq s' y5 y7 ?_ (by omega) f3
        rw[e2]
        have e4:ivs (y::downC c x q).reverse++T=ivs (downC c x q).reverse++(iv y::T):=by simp
        rw[e4];exact f1
    · have e2:downC c x (y::q)=x::y::q:=by simp[downC,h]
      simp only[h,decide_false,Qa,Qb,Qc,Qd,Qe,Qf,Qg,Qh,Qi,Qj,Qk,Ql,Qm,Qn,true_and,and_true,Qo,Qp,Qq,Qr,Qs,Qt,Qu,Qv,Qw,Qx,Qy,Qz,Ra,Rb,Rc,Rd,Re,Rf,Rg,Rh,Ri,Rj,Rk,Rl,Rm,Ya,Yb,Yc,Rn,Ro,Rp,Yd,Ye,Rq,Rs,Rt,Ru,Rv,Rw,Rx]
      refine hq s _ _ ?_ hnx hf
      rw[e2]
      have e4:ivs (x::y::q).reverse++T=ivs ((y::q).reverse++[x])++T:=by simp
      rw[e4];exact hr
theorem ssort_out{E:Env}(hE:Good E){i n:Nat}(hn:n≤1000){s0:ASt}{P:Int→Prop}{c:Int→Int→Int}{g:FuncId}{cp G:List AV}(hg:∀s a b,(∀z,z≠i→s.heap.get z=s0.heap.get z)→s.next=s0.next→P a→P b→WF E g (iv a::iv b::cp) (fun r s'=>r=iv (c a b)∧s=s') s){Q:ARes→Prop}:
    ∀ (R q : List Int) (s : ASt) (m : Nat) (x5 x6 x7 : AV), q.length = m → n = q.length + R.length → (∀ y ∈ q, P y) → (∀ y ∈ R, P y) → (∀ z, z ≠ i → s.heap.get z = s0.heap.get z) → s.next = s0.next → RowAt s i (ivs (q.reverse ++ R) ++ G) →
      (∀s' y4 y5 y6 y7,RowAt s' i (ivs (R.foldl (fun q x=>downC c x q) q).reverse++G)→s'.next=s0.next→(∀z,z≠i→s'.heap.get z=s0.heap.get z)→Q ⟨.exit 0,[.slice (some (i,0)) n none,iv 0,iv (n:Int),.func g [] cp,y4,y5,y6,y7],[],s'⟩) →
      WC E none (.loop c114l8) Q [.slice (some (i,0)) n none,iv 0,iv (n:Int),.func g [] cp,iv (m:Int),x5,x6,x7] [] s:=by
  intro R
  induction R with
  | nil =>
    intro q s m x5 x6 x7 hm hq hp hpR hf hnx hr hk
    subst hm
    have hlt:decide (((q.length:Nat):Int)<(n:Int))=false:=decide_eq_false (by simp at hq;omega)
    refine WC.loop' ?_
    simp only[c114l8,c114o1,hlt,Qa,Qb,Qc,Qd,Qe,Qf,Qg,Qh,Qi,Qj,Qk,Ql,Qm,Qn,true_and,and_true,Qo,Qp,Qq,Qr,Qs,Qt,Qu,Qv,Qw,Qx,Qy,Qz,Ra,Rb,Rc,Rd,Re,Rf,Rg,Rh,Ri,Rj,Rk,Rl,Rm,Ya,Yb,Yc,Rn,Ro,Rp,Yd,Ye,Rq,Rs,Rt,Ru,Rv,Rw,Rx]
    exact hk s _ _ _ _ (by simpa using hr) hnx hf
  | cons x T ih =>
    intro q s m x5 x6 x7 hm hq hp hpR hf hnx hr hk
    subst hm
    have hR:(x::T).length=T.length+1:=rfl
    rw[hR]at hq
    have hlt:decide (((q.length:Nat):Int)<(n:Int))=true:=decide_eq_true (by omega)
    have e3:=bin_add Try.prog 3 ((q.length:Nat):Int) 1 ⟨by omega,by omega⟩
    have hcast:(((q.length:Nat):Int)+1)=((q.length+1:Nat):Int):=by omega
    have hPx:=hpR x (List.mem_cons_self ..)
    refine WC.loop' ?_
    generalize hW:WC E none (CCode.loop c114l8) Q=W
    simp only[c114l8,c114o1,c114o2,hlt,Qa,Qb,Qc,Qd,Qe,Qf,Qg,Qh,Qi,Qj,Qk,Ql,Qm,Qn,true_and,and_true,Qo,Qp,Qq,Qr,Qs,Qt,Qu,Qv,Qw,Qx,Qy,Qz,Ra,Rb,Rc,Rd,Re,Rf,Rg,Rh,Ri,Rj,Rk,Rl,Rm,Ya,Yb,Yc,Rn,Ro,Rp,Yd,Ye,Rq,Rs,Rt,Ru,Rv,Rw,Rx]
    refine ssort_in hE hn hg x hPx q (ivs T++G) s _ _ (by omega) hp hf hnx (by simpa using hr) ?_
    intro s' y5 y7 g1 g2 g3
    simp only[c114o7,e3,hcast,if_true,Qa,Qb,Qc,Qd,Qe,Qf,Qg,Qh,Qi,Qj,Qk,Ql,Qm,Qn,true_and,and_true,Qo,Qp,Qq,Qr,Qs,Qt,Qu,Qv,Qw,Qx,Qy,Qz,Ra,Rb,Rc,Rd,Re,Rf,Rg,Rh,Ri,Rj,Rk,Rl,Rm,Ya,Yb,Yc,Rn,Ro,Rp,Yd,Ye,Rq,Rs,Rt,Ru,Rv,Rw,Rx]
    rw[← hW]
    refine ih (downC c x q) s' (q.length+1) _ _ _ (downC_len c x q) (by rw[downC_len];omega) (fun y hy=>?_) (fun y hy=>hpR y (List.mem_cons_of_mem _ hy)) g3 g2 (by simpa using g1) hk
    rcases(downC_mem c x y q).1 hy with e | e
    · rw[e];exact hPx
    · exact hp y e
theorem ssort_ok {E : Env} (hE : Good E) {lo : Nat} {s0 : ASt} {v : AV} {L : List Int} (h : IntBuf lo s0 v L) (hL : L.length ≤ 12) {P : Int → Prop} {c : Int → Int → Int} {g : FuncId} {cp : List AV} (hP : ∀ y ∈ L, P y)
    (hg:∀s a b,(∀z,arrI v≠some z→s.heap.get z=s0.heap.get z)→s.next=s0.next→P a→P b→WF E g (iv a::iv b::cp) (fun r s'=>r=iv (c a b)∧s=s') s):
    WF E 75 [v,.func g [] cp] (fun r s'=>IntBuf lo s' v (stabV c L)∧s'.next=s0.next∧∀z,arrI v≠some z→s'.heap.get z=s0.heap.get z) s0:=by
  have e3:=bin_add Try.prog 3 0 1 ⟨by omega,by omega⟩
  have e4:(0:Int)+1=1:=rfl
  have h114:WF E 114 [v,iv 0,iv (L.length:Int),.func g [] cp] (fun r s'=>IntBuf lo s' v (stabV c L)∧s'.next=s0.next∧∀z,arrI v≠some z→s'.heap.get z=s0.heap.get z) s0:=by
    refine hE.go comp114 (by decide) rfl ?_
    rcases h with⟨a,rfl,rfl⟩ | ⟨i,G,rfl,h1,h2,h3⟩
    · simp only[c114,c114o0,e3,e4,List.length_nil,show((0:Nat):Int)=0 from rfl,Qa,Qb,Qc,Qd,Qe,Qf,Qg,Qh,Qi,Qj,Qk,Ql,Qm,Qn,true_and,and_true,Qo,Qp,Qq,Qr,Qs,Qt,Qu,Qv,Qw,Qx,Qy,Qz,Ra,Rb,Rc,Rd,Re,Rf,Rg,Rh,Ri,Rj,Rk,Rl,Rm,Ya,Yb,Yc,Rn,Ro,Rp,Yd,Ye,Rq,Rs,Rt,Ru,Rv,Rw,Rx]
      refine WC.loop' ?_
      simp only[c114l8,c114o1,show decide ((1:Int)<0)=false from rfl,if_true,Qa,Qb,Qc,Qd,Qe,Qf,Qg,Qh,Qi,Qj,Qk,Ql,Qm,Qn,true_and,and_true,Qo,Qp,Qq,Qr,Qs,Qt,Qu,Qv,Qw,Qx,Qy,Qz,Ra,Rb,Rc,Rd,Re,Rf,Rg,Rh,Ri,Rj,Rk,Rl,Rm,Ya,Yb,Yc,Rn,Ro,Rp,Yd,Ye,Rq,Rs,Rt,Ru,Rv,Rw,Rx]
      exact⟨.inl ⟨a,rfl,rfl⟩,fun _ _=>trivial⟩
    · simp only[c114,c114o0,e3,e4,Qa,Qb,Qc,Qd,Qe,Qf,Qg,Qh,Qi,Qj,Qk,Ql,Qm,Qn,true_and,and_true,Qo,Qp,Qq,Qr,Qs,Qt,Qu,Qv,Qw,Qx,Qy,Qz,Ra,Rb,Rc,Rd,Re,Rf,Rg,Rh,Ri,Rj,Rk,Rl,Rm,Ya,Yb,Yc,Rn,Ro,Rp,Yd,Ye,Rq,Rs,Rt,Ru,Rv,Rw,Rx]
      cases L with
      | nil =>
        refine WC.loop' ?_
        simp only[c114l8,c114o1,List.length_nil,show((0:Nat):Int)=0 from rfl,show decide ((1:Int)<0)=false from rfl,if_true,Qa,Qb,Qc,Qd,Qe,Qf,Qg,Qh,Qi,Qj,Qk,Ql,Qm,Qn,true_and,and_true,Qo,Qp,Qq,Qr,Qs,Qt,Qu,Qv,Qw,Qx,Qy,Qz,Ra,Rb,Rc,Rd,Re,Rf,Rg,Rh,Ri,Rj,Rk,Rl,Rm,Ya,Yb,Yc,Rn,Ro,Rp,Yd,Ye,Rq,Rs,Rt,Ru,Rv,Rw,Rx]
        exact⟨.inr ⟨i,G,rfl,h1,h2,h3⟩,fun _ _=>trivial⟩
      | cons x T =>
        refine ssort_out hE (n:=(x::T).length) (by omega) (s0:=s0) (P:=P) (c:=c) (G:=G) (fun s a b f1 f2 p1 p2=>hg s a b (fun z hz=>f1 z fun e=>hz (by rw[e];rfl)) f2 p1 p2) T [x] s0 1 _ _ _ rfl (by simp;omega) (fun y hy=>hP y (by simp at hy;rw[hy];exact List.mem_cons_self ..)) (fun y hy=>hP y (List.mem_cons_of_mem _ hy)) (fun _ _=>rfl) rfl (by simpa using h3) ?_
        intro s' y4 y5 y6 y7 g1 g2 g3
        simp only[if_true,Qa,Qb,Qc,Qd,Qe,Qf,Qg,Qh,Qi,Qj,Qk,Ql,Qm,Qn,true_and,and_true,Qo,Qp,Qq,Qr,Qs,Qt,Qu,Qv,Qw,Qx,Qy,Qz,Ra,Rb,Rc,Rd,Re,Rf,Rg,Rh,Ri,Rj,Rk,Rl,Rm,Ya,Yb,Yc,Rn,Ro,Rp,Yd,Ye,Rq,Rs,Rt,Ru,Rv,Rw,Rx]
        exact⟨.inr ⟨i,G,by rw[stabV_len],h1,by omega,g1⟩,g2,fun z hz=>g3 z fun e=>hz (by rw[e];rfl)⟩
  have d1:decide ((20:Int)≤(L.length:Int))=false:=decide_eq_false (by omega)
  have d2:decide ((20:Int)<(L.length:Int))=false:=decide_eq_false (by omega)
  have ln:∀s,lenA Try.prog s 23 v=some (iv (L.length:Int)):=fun s=>by
    have:=h.slice.len Try.underlying23 s
    rw[ivs_len]at this
    exact this
  have h102:WF E 102 [v,iv (L.length:Int),.func g [] cp] (fun r s'=>IntBuf lo s' v (stabV c L)∧s'.next=s0.next∧∀z,arrI v≠some z→s'.heap.get z=s0.heap.get z) s0:=by
    refine hE.go comp102 (by decide) rfl ?_
    simp only[c102,c102o0,c102o1,Qa,Qb,Qc,Qd,Qe,Qf,Qg,Qh,Qi,Qj,Qk,Ql,Qm,Qn,true_and,and_true,Qo,Qp,Qq,Qr,Qs,Qt,Qu,Qv,Qw,Qx,Qy,Qz,Ra,Rb,Rc,Rd,Re,Rf,Rg,Rh,Ri,Rj,Rk,Rl,Rm,Ya,Yb,Yc,Rn,Ro,Rp,Yd,Ye,Rq,Rs,Rt,Ru,Rv,Rw,Rx]
    refine WC.loop' ?_
    simp only[c102l6,c102o2,d1,if_true,c102o7,Qa,Qb,Qc,Qd,Qe,Qf,Qg,Qh,Qi,Qj,Qk,Ql,Qm,Qn,true_and,and_true,Qo,Qp,Qq,Qr,Qs,Qt,Qu,Qv,Qw,Qx,Qy,Qz,Ra,Rb,Rc,Rd,Re,Rf,Rg,Rh,Ri,Rj,Rk,Rl,Rm,Ya,Yb,Yc,Rn,Ro,Rp,Yd,Ye,Rq,Rs,Rt,Ru,Rv,Rw,Rx]
    refine h114.mono ?_
    rintro r s' h'
    simp only[Qa,Qb,Qc,Qd,Qe,Qf,Qg,Qh,Qi,Qj,Qk,Ql,Qm,Qn,true_and,and_true,Qo,Qp,Qq,Qr,Qs,Qt,Qu,Qv,Qw,Qx,Qy,Qz,Ra,Rb,Rc,Rd,Re,Rf,Rg,Rh,Ri,Rj,Rk,Rl,Rm,Ya,Yb,Yc,Rn,Ro,Rp,Yd,Ye,Rq,Rs,Rt,Ru,Rv,Rw,Rx]
    refine WC.loop' ?_
    simp only[c102l19,c102o8,d2,if_true,Qa,Qb,Qc,Qd,Qe,Qf,Qg,Qh,Qi,Qj,Qk,Ql,Qm,Qn,true_and,and_true,Qo,Qp,Qq,Qr,Qs,Qt,Qu,Qv,Qw,Qx,Qy,Qz,Ra,Rb,Rc,Rd,Re,Rf,Rg,Rh,Ri,Rj,Rk,Rl,Rm,Ya,Yb,Yc,Rn,Ro,Rp,Yd,Ye,Rq,Rs,Rt,Ru,Rv,Rw,Rx]
    exact h'
  refine hE.go comp75 (by decide) rfl ?_
  simp only[c75,c75o0,ln,Qa,Qb,Qc,Qd,Qe,Qf,Qg,Qh,Qi,Qj,Qk,Ql,Qm,Qn,true_and,and_true,Qo,Qp,Qq,Qr,Qs,Qt,Qu,Qv,Qw,Qx,Qy,Qz,Ra,Rb,Rc,Rd,Re,Rf,Rg,Rh,Ri,Rj,Rk,Rl,Rm,Ya,Yb,Yc,Rn,Ro,Rp,Yd,Ye,Rq,Rs,Rt,Ru,Rv,Rw,Rx]
  refine h102.mono ?_
  rintro r s' h'
  simp only[Qa,Qb,Qc,Qd,Qe,Qf,Qg,Qh,Qi,Qj,Qk,Ql,Qm,Qn,true_and,and_true,Qo,Qp,Qq,Qr,Qs,Qt,Qu,Qv,Qw,Qx,Qy,Qz,Ra,Rb,Rc,Rd,Re,Rf,Rg,Rh,Ri,Rj,Rk,Rl,Rm,Ya,Yb,Yc,Rn,Ro,Rp,Yd,Ye,Rq,Rs,Rt,Ru,Rv,Rw,Rx]
  exact h'
theorem isV_bound{val:List Int}(h:Val3 val)(l:Int):isV val l=-1∨isV val l=0∨isV val l=1:=by
  unfold isV
  have:=h.get l.natAbs
  split<;>omega
theorem cmp_ok{E:Env}(hE:Good E){ow:Ow}{s:ASt}{p:Nat}{x:Sf}{v:Sv}(h:SAt ow s p x v)(h3:Val3 v.value){n sb:Nat}(hn:n<100000000)(hval:v.value.length=n+1)(hb:Box1 s sb (ptrA p)){a b:Int}(ha:VL n a)(hb':VL n b):
    WF E 76 [iv a,iv b,.ptr (some (sb,0))] (fun r s'=>r=iv (isV v.value b - isV v.value a)∧s=s') s:=by
  have l1:=hb.load ag44
  simp only[ptrA]at l1
  have eqp:eqA (.ptr (some (p,0))) (.ptr (some (p,0)))=true:=by simp[eqA]
  have ha2:=ha.2
  have hb2:=hb'.2
  have k1:=isV_bound h3 a
  have k2:=isV_bound h3 b
  have e3:=bin_sub Try.prog 3 (isV v.value b) (isV v.value a) ⟨by omega,by omega⟩
  refine hE.go comp76 (by decide) rfl ?_
  simp only[c76,c76o0,c76o1,l1,Qa,Qb,Qc,Qd,Qe,Qf,Qg,Qh,Qi,Qj,Qk,Ql,Qm,Qn,true_and,and_true,Qo,Qp,Qq,Qr,Qs,Qt,Qu,Qv,Qw,Qx,Qy,Qz,Ra,Rb,Rc,Rd,Re,Rf,Rg,Rh,Ri,Rj,Rk,Rl,Rm,Ya,Yb,Yc,Rn,Ro,Rp,Yd,Ye,Rq,Rs,Rt,Ru,Rv,Rw,Rx]
  refine(is_ok hE h h3 (l:=b) (by omega) (by omega)).mono ?_
  rintro _ _ ⟨rfl,rfl⟩
  simp only[again_r1,sameA_some,l1,eqp,Qa,Qb,Qc,Qd,Qe,Qf,Qg,Qh,Qi,Qj,Qk,Ql,Qm,Qn,true_and,and_true,Qo,Qp,Qq,Qr,Qs,Qt,Qu,Qv,Qw,Qx,Qy,Qz,Ra,Rb,Rc,Rd,Re,Rf,Rg,Rh,Ri,Rj,Rk,Rl,Rm,Ya,Yb,Yc,Rn,Ro,Rp,Yd,Ye,Rq,Rs,Rt,Ru,Rv,Rw,Rx]
  refine(is_ok hE h h3 (l:=a) (by omega) (by omega)).mono ?_
  rintro _ _ ⟨rfl,rfl⟩
  simp only[e3,Qa,Qb,Qc,Qd,Qe,Qf,Qg,Qh,Qi,Qj,Qk,Ql,Qm,Qn,true_and,and_true,Qo,Qp,Qq,Qr,Qs,Qt,Qu,Qv,Qw,Qx,Qy,Qz,Ra,Rb,Rc,Rd,Re,Rf,Rg,Rh,Ri,Rj,Rk,Rl,Rm,Ya,Yb,Yc,Rn,Ro,Rp,Yd,Ye,Rq,Rs,Rt,Ru,Rv,Rw,Rx]
theorem bad_ok {E : Env} (hE : Good E) {ow : Ow} {s : ASt} {p : Nat} {x : Sf} {v : Sv} (h : SAt ow s p x v) {n sb : Nat} (hn : n < 100000000) (hval : v.value.length = n + 1) (hb : Box1 s sb (ptrA p)) (q : Int) :
    WF E 73 [iv q,.ptr (some (sb,0))] (fun r s'=>r=.bool (!decide (VL n q))∧s=s') s:=by
  have l1:=hb.load ag44
  simp only[ptrA]at l1
  have e1:=un_neg Try.prog (n:Int) ⟨by omega,by omega⟩
  refine hE.go comp73 (by decide) rfl ?_
  by_cases h0:q=0
  · have hd:decide (VL n q)=false:=decide_eq_false fun k=>k.1 h0
    simp only[c73,c73o0,c73o1,decide_eq_true h0,hd,Qa,Qb,Qc,Qd,Qe,Qf,Qg,Qh,Qi,Qj,Qk,Ql,Qm,Qn,true_and,and_true,Qo,Qp,Qq,Qr,Qs,Qt,Qu,Qv,Qw,Qx,Qy,Qz,Ra,Rb,Rc,Rd,Re,Rf,Rg,Rh,Ri,Rj,Rk,Rl,Rm,Ya,Yb,Yc,Rn,Ro,Rp,Yd,Ye,Rq,Rs,Rt,Ru,Rv,Rw,Rx]
  · simp only[c73,c73o0,c73o1,decide_eq_false h0,l1,Qa,Qb,Qc,Qd,Qe,Qf,Qg,Qh,Qi,Qj,Qk,Ql,Qm,Qn,true_and,and_true,Qo,Qp,Qq,Qr,Qs,Qt,Qu,Qv,Qw,Qx,Qy,Qz,Ra,Rb,Rc,Rd,Re,Rf,Rg,Rh,Ri,Rj,Rk,Rl,Rm,Ya,Yb,Yc,Rn,Ro,Rp,Yd,Ye,Rq,Rs,Rt,Ru,Rv,Rw,Rx]
    refine(vars_ok hE h hn hval).mono ?_
    rintro _ _ ⟨rfl,rfl⟩
    by_cases h1:q < -(n:Int)
    · have hd:decide (VL n q)=false:=decide_eq_false fun k=>by have:=k.2;omega
      simp only[e1,decide_eq_true h1,hd,Qa,Qb,Qc,Qd,Qe,Qf,Qg,Qh,Qi,Qj,Qk,Ql,Qm,Qn,true_and,and_true,Qo,Qp,Qq,Qr,Qs,Qt,Qu,Qv,Qw,Qx,Qy,Qz,Ra,Rb,Rc,Rd,Re,Rf,Rg,Rh,Ri,Rj,Rk,Rl,Rm,Ya,Yb,Yc,Rn,Ro,Rp,Yd,Ye,Rq,Rs,Rt,Ru,Rv,Rw,Rx]
    · simp only[e1,decide_eq_false h1,l1,Qa,Qb,Qc,Qd,Qe,Qf,Qg,Qh,Qi,Qj,Qk,Ql,Qm,Qn,true_and,and_true,Qo,Qp,Qq,Qr,Qs,Qt,Qu,Qv,Qw,Qx,Qy,Qz,Ra,Rb,Rc,Rd,Re,Rf,Rg,Rh,Ri,Rj,Rk,Rl,Rm,Ya,Yb,Yc,Rn,Ro,Rp,Yd,Ye,Rq,Rs,Rt,Ru,Rv,Rw,Rx]
      refine(vars_ok hE h hn hval).mono ?_
      rintro _ _ ⟨rfl,rfl⟩
      by_cases h2:(n:Int)<q
      · have hd:decide (VL n q)=false:=decide_eq_false fun k=>by have:=k.2;omega
        simp only[decide_eq_true h2,hd,Qa,Qb,Qc,Qd,Qe,Qf,Qg,Qh,Qi,Qj,Qk,Ql,Qm,Qn,true_and,and_true,Qo,Qp,Qq,Qr,Qs,Qt,Qu,Qv,Qw,Qx,Qy,Qz,Ra,Rb,Rc,Rd,Re,Rf,Rg,Rh,Ri,Rj,Rk,Rl,Rm,Ya,Yb,Yc,Rn,Ro,Rp,Yd,Ye,Rq,Rs,Rt,Ru,Rv,Rw,Rx]
      · have hd:decide (VL n q)=true:=decide_eq_true ⟨h0,by omega⟩
        simp only[decide_eq_false h2,hd,Qa,Qb,Qc,Qd,Qe,Qf,Qg,Qh,Qi,Qj,Qk,Ql,Qm,Qn,true_and,and_true,Qo,Qp,Qq,Qr,Qs,Qt,Qu,Qv,Qw,Qx,Qy,Qz,Ra,Rb,Rc,Rd,Re,Rf,Rg,Rh,Ri,Rj,Rk,Rl,Rm,Ya,Yb,Yc,Rn,Ro,Rp,Yd,Ye,Rq,Rs,Rt,Ru,Rv,Rw,Rx]
def orderV(v:Sv)(L:List Int):List Int:=stabV (fun a b=>isV v.value b - isV v.value a) (ownV L)
def putC(v:Sv)(c:Nat)(O:List Int):Sv:=if 1<O.length then watchV (addCl v c (O,false,false)) c (O.getD 0 0) (O.getD 1 0)else addCl v c (O,false,false)
def addC(v:Sv)(c:Nat)(O:List Int):Sv:=
  if isV v.value (O.getD 0 0)<0 then failV (putC v c O)
  else if isV v.value (O.getD 0 0)=0∧(O.length=1∨isV v.value (O.getD 1 0)<0)then assignV (putC v c O) (O.getD 0 0) (some c)
  else putC v c O
inductive AddR (b:Sv) (L:List Int):Sv→Prop
  | none (h:tautV (ownV L)=true∨b.broken=true):AddR b L b
  | nil (h:tautV (ownV L)=false) (hb:b.broken=false) (he:ownV L=[]):AddR b L (failV b)
  | put {c:Nat} (h:tautV (ownV L)=false) (hb:b.broken=false) (he:ownV L≠[]) (hc:b.cl c=none):AddR b L (addC b c (orderV b L))
theorem putC_eq(v:Sv)(c:Nat)(O:List Int):∃ws,putC v c O={ v with watches:=ws,cl:=clPut v.cl c (O,false,false) }∧ws.length=v.watches.length:=by
  unfold putC
  split
  · exact⟨_,rfl,by rw[wPut_len,wPut_len];rfl⟩
  · exact⟨v.watches,rfl,rfl⟩
theorem add_end {E : Env} (hE : Good E) {ow : Ow} {s : ASt} {p : Nat} {x : Sf} {v : Sv} (h : SAt ow s p x v) {n : Nat} (hz : Siz n v) (h3 : Val3 v.value) (hT : v.trace.length ≤ 1000000) (hW : Tot v.watches ≤ 90000000) {c sb : Nat} {w : AV} {O : List Int} (hc : v.cl c = none) (hO : ClsOk n O) (hne : O ≠ []) (hb : Box1 s sb (ptrA p)) (hsb : ow sb = (p, 21, 0) ∧ sb < s.next) (hcl : SAt ow s p x (addCl v c (O, false, false))) (hw : Buf ow (p, 15, c) s w (ivs O)) {K : ARes → Prop} {x1 x3 x5 x7 x8 x9 x10 x11 x12 : AV}
    (hK:∀s' ow' x' V,SAt ow' s' p x' (addC v c O)→Step (mine p) ow s ow' s'→nth V 3=iv 0→K ⟨.ret,V,[],s'⟩):
    Qa E none (.seq (.seq (.ops c36o11) (.cond (.var 10) (.ops c36o12) .skip)) (.seq (.block 1 (.seq (.ops c36o13) (.cond (.var 11) (.ops c36o14) (.seq (.ops c36o15) (.cond (.var 12) (.ops c36o16) .skip))))) (.seq (.ops c36o17) .ret))) K [AV.ptr (some (p,0)),x1,.ptr (some (sb,0)),x3,w,x5,ptrA c,x7,x8,x9,x10,x11,x12] [] s:=by
  have hpos:0<O.length:=List.length_pos_iff.2 hne
  have hsm:=hz.small
  have hOl:=hO.2
  have ln:∀s,lenA Try.prog s 23 w=some (iv (O.length:Int)):=fun s=>by
    have:=hw.len Try.underlying23 s
    rw[ivs_len]at this
    exact this
  have hV0:=hO.get hpos
  have hg0:=getD_get (d:=(0:Int)) hpos
  have i0:indexAddrA Try.prog 23 w (iv 0)=some (addrOf w 0):=hw.addr Try.underlying23 sz3 (k:=0) (by rw[ivs_len];exact hpos)
  have d0:decide ((O.length:Int)=0)=false:=decide_eq_false (by omega)
  have rest : ∀ (s1 : ASt) (ow1 : Ow) (y10 : AV), SAt ow1 s1 p x (putC v c O) → Step (mineW p) ow s ow1 s1 →
      Qa E none (.seq (.block 1 (.seq (.ops c36o13) (.cond (.var 11) (.ops c36o14) (.seq (.ops c36o15) (.cond (.var 12) (.ops c36o16) .skip))))) (.seq (.ops c36o17) .ret)) K [AV.ptr (some (p,0)),x1,.ptr (some (sb,0)),x3,w,x5,ptrA c,x7,x8,x9,y10,x11,x12] [] s1:=by
    intro s1 ow1 y10 h1 st1
    obtain⟨ws,e,hws⟩:=putC_eq v c O
    have hval:(putC v c O).value=v.value:=by rw[e]
    have h3':Val3 (putC v c O).value:=by rw[hval];exact h3
    have hsz':Siz n (putC v c O):=by rw[e];exact⟨hz.small,hws.trans hz.w,hz.value,hz.level,hz.why,hz.heat,hz.phase,hz.trail,hz.limits⟩
    have hT':(putC v c O).trace.length≤1000000:=by rw[e];exact hT
    have hw1:Buf ow1 (p,15,c) s1 w (ivs O):=hw.step st1 (fun q=>by rcases q.2 with q | q<;>cases q)
    have hb1:Box1 s1 sb (ptrA p):=hb.keep (st1.heap sb hsb.2 (by rw[hsb.1];exact fun q=>by rcases q.2 with q | q<;>cases q))
    have l1:=hb1.load ag44
    simp only[ptrA]at l1
    have l0:=hw1.get (t:=3) ag3 (k:=0) (get_ivs hg0)
    have hvl:=hz.value
    have hV02:=hV0.2
    simp only[c36o13,ln,d0,l1,i0,l0,ptrA,Qa,Qb,Qc,Qd,Qe,Qf,Qg,Qh,Qi,Qj,Qk,Ql,Qm,Qn,true_and,and_true,Qo,Qp,Qq,Qr,Qs,Qt,Qu,Qv,Qw,Qx,Qy,Qz,Ra,Rb,Rc,Rd,Re,Rf,Rg,Rh,Ri,Rj,Rk,Rl,Rm,Ya,Yb,Yc,Rn,Ro,Rp,Yd,Ye,Rq,Rs,Rt,Ru,Rv,Rw,Rx]
    refine(is_ok hE h1 h3' (l:=O.getD 0 0) (by rw[hval];omega) (by rw[hval];omega)).mono ?_
    rintro _ _ ⟨rfl,rfl⟩
    rw[hval]
    by_cases hneg:isV v.value (O.getD 0 0)<0
    · simp only[decide_eq_true hneg,c36o14,l1,Qa,Qb,Qc,Qd,Qe,Qf,Qg,Qh,Qi,Qj,Qk,Ql,Qm,Qn,true_and,and_true,Qo,Qp,Qq,Qr,Qs,Qt,Qu,Qv,Qw,Qx,Qy,Qz,Ra,Rb,Rc,Rd,Re,Rf,Rg,Rh,Ri,Rj,Rk,Rl,Rm,Ya,Yb,Yc,Rn,Ro,Rp,Yd,Ye,Rq,Rs,Rt,Ru,Rv,Rw,Rx]
      refine(fail_ok hE h1 hT').mono ?_
      rintro _ s2 ⟨ow2,x2,g1,g2,_⟩
      simp only[c36o17,Qa,Qb,Qc,Qd,Qe,Qf,Qg,Qh,Qi,Qj,Qk,Ql,Qm,Qn,true_and,and_true,Qo,Qp,Qq,Qr,Qs,Qt,Qu,Qv,Qw,Qx,Qy,Qz,Ra,Rb,Rc,Rd,Re,Rf,Rg,Rh,Ri,Rj,Rk,Rl,Rm,Ya,Yb,Yc,Rn,Ro,Rp,Yd,Ye,Rq,Rs,Rt,Ru,Rv,Rw,Rx]
      refine hK s2 ow2 x2 _ ?_ (st1.w.trans g2.b) rfl
      unfold addC
      rw[if_pos hneg]
      exact g1
    · simp only[decide_eq_false hneg,c36o15,l1,i0,l0,Qa,Qb,Qc,Qd,Qe,Qf,Qg,Qh,Qi,Qj,Qk,Ql,Qm,Qn,true_and,and_true,Qo,Qp,Qq,Qr,Qs,Qt,Qu,Qv,Qw,Qx,Qy,Qz,Ra,Rb,Rc,Rd,Re,Rf,Rg,Rh,Ri,Rj,Rk,Rl,Rm,Ya,Yb,Yc,Rn,Ro,Rp,Yd,Ye,Rq,Rs,Rt,Ru,Rv,Rw,Rx]
      refine(is_ok hE h1 h3' (l:=O.getD 0 0) (by rw[hval];omega) (by rw[hval];omega)).mono ?_
      rintro _ _ ⟨rfl,rfl⟩
      rw[hval]
      have asg:isV v.value (O.getD 0 0)=0∧(O.length=1∨isV v.value (O.getD 1 0)<0)→WF E 71 [AV.ptr (some (p,0)),iv (O.getD 0 0),.ptr (some (c,0))] (fun _ s'=>∃ow' x',SAt ow' s' p x' (addC v c O)∧Step (mine p) ow s ow' s') s1:=by
        intro hc2
        refine(assign_ok hE h1 hsz' hV0 (some c)).mono ?_
        rintro _ s2 ⟨ow2,x2,g1,g2,_⟩
        refine⟨ow2,x2,?_,st1.w.trans g2.b⟩
        unfold addC
        rw[if_neg hneg,if_pos hc2]
        exact g1
      have non:¬ (isV v.value (O.getD 0 0)=0∧(O.length=1∨isV v.value (O.getD 1 0)<0))→SAt ow1 s1 p x (addC v c O):=by
        intro hc2
        unfold addC
        rw[if_neg hneg,if_neg hc2]
        exact h1
      by_cases hz0:isV v.value (O.getD 0 0)=0
      · have e1:decide ((O.length:Int)=1)=decide (O.length=1):=by
          by_cases q:O.length=1
          · rw[decide_eq_true q,decide_eq_true (by omega)]
          · rw[decide_eq_false q,decide_eq_false (by omega)]
        by_cases hl1:O.length=1
        · simp only[decide_eq_true hz0,ln,e1,decide_eq_true hl1,c36o16,l1,i0,l0,Qa,Qb,Qc,Qd,Qe,Qf,Qg,Qh,Qi,Qj,Qk,Ql,Qm,Qn,true_and,and_true,Qo,Qp,Qq,Qr,Qs,Qt,Qu,Qv,Qw,Qx,Qy,Qz,Ra,Rb,Rc,Rd,Re,Rf,Rg,Rh,Ri,Rj,Rk,Rl,Rm,Ya,Yb,Yc,Rn,Ro,Rp,Yd,Ye,Rq,Rs,Rt,Ru,Rv,Rw,Rx]
          refine(asg ⟨hz0,.inl hl1⟩).mono ?_
          rintro _ s2 ⟨ow2,x2,g1,g2⟩
          simp only[c36o17,Qa,Qb,Qc,Qd,Qe,Qf,Qg,Qh,Qi,Qj,Qk,Ql,Qm,Qn,true_and,and_true,Qo,Qp,Qq,Qr,Qs,Qt,Qu,Qv,Qw,Qx,Qy,Qz,Ra,Rb,Rc,Rd,Re,Rf,Rg,Rh,Ri,Rj,Rk,Rl,Rm,Ya,Yb,Yc,Rn,Ro,Rp,Yd,Ye,Rq,Rs,Rt,Ru,Rv,Rw,Rx]
          exact hK s2 ow2 x2 _ g1 g2 rfl
        · have hV1 := hO.get (k := 1) (by omega)
          have hV12:=hV1.2
          have hg1:=getD_get (d:=(0:Int)) (show 1<O.length by omega)
          have i1:indexAddrA Try.prog 23 w (iv 1)=some (addrOf w 1):=hw.addr Try.underlying23 sz3 (k:=1) (by rw[ivs_len];omega)
          have m1:=hw1.get (t:=3) ag3 (k:=1) (get_ivs hg1)
          simp only[decide_eq_true hz0,ln,e1,decide_eq_false hl1,l1,i1,m1,Qa,Qb,Qc,Qd,Qe,Qf,Qg,Qh,Qi,Qj,Qk,Ql,Qm,Qn,true_and,and_true,Qo,Qp,Qq,Qr,Qs,Qt,Qu,Qv,Qw,Qx,Qy,Qz,Ra,Rb,Rc,Rd,Re,Rf,Rg,Rh,Ri,Rj,Rk,Rl,Rm,Ya,Yb,Yc,Rn,Ro,Rp,Yd,Ye,Rq,Rs,Rt,Ru,Rv,Rw,Rx]
          refine(is_ok hE h1 h3' (l:=O.getD 1 0) (by rw[hval];omega) (by rw[hval];omega)).mono ?_
          rintro _ _ ⟨rfl,rfl⟩
          rw[hval]
          by_cases hn1:isV v.value (O.getD 1 0)<0
          · simp only[decide_eq_true hn1,c36o16,l1,i0,l0,Qa,Qb,Qc,Qd,Qe,Qf,Qg,Qh,Qi,Qj,Qk,Ql,Qm,Qn,true_and,and_true,Qo,Qp,Qq,Qr,Qs,Qt,Qu,Qv,Qw,Qx,Qy,Qz,Ra,Rb,Rc,Rd,Re,Rf,Rg,Rh,Ri,Rj,Rk,Rl,Rm,Ya,Yb,Yc,Rn,Ro,Rp,Yd,Ye,Rq,Rs,Rt,Ru,Rv,Rw,Rx]
            refine(asg ⟨hz0,.inr hn1⟩).mono ?_
            rintro _ s2 ⟨ow2,x2,g1,g2⟩
            simp only[c36o17,Qa,Qb,Qc,Qd,Qe,Qf,Qg,Qh,Qi,Qj,Qk,Ql,Qm,Qn,true_and,and_true,Qo,Qp,Qq,Qr,Qs,Qt,Qu,Qv,Qw,Qx,Qy,Qz,Ra,Rb,Rc,Rd,Re,Rf,Rg,Rh,Ri,Rj,Rk,Rl,Rm,Ya,Yb,Yc,Rn,Ro,Rp,Yd,Ye,Rq,Rs,Rt,Ru,Rv,Rw,Rx]
            exact hK s2 ow2 x2 _ g1 g2 rfl
          · simp only[decide_eq_false hn1,c36o17,Qa,Qb,Qc,Qd,Qe,Qf,Qg,Qh,Qi,Qj,Qk,Ql,Qm,Qn,true_and,and_true,Qo,Qp,Qq,Qr,Qs,Qt,Qu,Qv,Qw,Qx,Qy,Qz,Ra,Rb,Rc,Rd,Re,Rf,Rg,Rh,Ri,Rj,Rk,Rl,Rm,Ya,Yb,Yc,Rn,Ro,Rp,Yd,Ye,Rq,Rs,Rt,Ru,Rv,Rw,Rx]
            exact hK s1 ow1 x _ (non (by rintro⟨_,q | q⟩;exact hl1 q;exact hn1 q)) st1.w rfl
      · simp only[decide_eq_false hz0,c36o17,Qa,Qb,Qc,Qd,Qe,Qf,Qg,Qh,Qi,Qj,Qk,Ql,Qm,Qn,true_and,and_true,Qo,Qp,Qq,Qr,Qs,Qt,Qu,Qv,Qw,Qx,Qy,Qz,Ra,Rb,Rc,Rd,Re,Rf,Rg,Rh,Ri,Rj,Rk,Rl,Rm,Ya,Yb,Yc,Rn,Ro,Rp,Yd,Ye,Rq,Rs,Rt,Ru,Rv,Rw,Rx]
        exact hK s1 ow1 x _ (non (fun q=>hz0 q.1)) st1.w rfl
  have l1:=hb.load ag44
  simp only[ptrA]at l1
  by_cases h2:1<O.length
  · have d2 : decide ((1 : Int) < (O.length : Int)) = true := decide_eq_true (by omega)
    have e:putC v c O=watchV (addCl v c (O,false,false)) c (O.getD 0 0) (O.getD 1 0):=by unfold putC;rw[if_pos h2]
    unfold Qa
    simp only[c36o11,ln,d2,c36o12,l1,ptrA,Qa,Qb,Qc,Qd,Qe,Qf,Qg,Qh,Qi,Qj,Qk,Ql,Qm,Qn,true_and,and_true,Qo,Qp,Qq,Qr,Qs,Qt,Qu,Qv,Qw,Qx,Qy,Qz,Ra,Rb,Rc,Rd,Re,Rf,Rg,Rh,Ri,Rj,Rk,Rl,Rm,Ya,Yb,Yc,Rn,Ro,Rp,Yd,Ye,Rq,Rs,Rt,Ru,Rv,Rw,Rx]
    refine(watch_ok hE hcl (n:=n) hsm hz.w hW (clPut_same _ _ _) hO h2).mono ?_
    rintro _ s1 ⟨ow1,g1,g2⟩
    rw[← e]at g1
    have:=rest s1 ow1 (.bool true) g1 g2
    simp only[ptrA,Qa,Qb,Qc,Qd,Qe,Qf,Qg,Qh,Qi,Qj,Qk,Ql,Qm,Qn,true_and,and_true,Qo,Qp,Qq,Qr,Qs,Qt,Qu,Qv,Qw,Qx,Qy,Qz,Ra,Rb,Rc,Rd,Re,Rf,Rg,Rh,Ri,Rj,Rk,Rl,Rm,Ya,Yb,Yc,Rn,Ro,Rp,Yd,Ye,Rq,Rs,Rt,Ru,Rv,Rw,Rx]at this ⊢
    exact this
  · have d2 : decide ((1 : Int) < (O.length : Int)) = false := decide_eq_false (by omega)
    have e:putC v c O=addCl v c (O,false,false):=by unfold putC;rw[if_neg h2]
    rw[← e]at hcl
    unfold Qa
    simp only[c36o11,ln,d2,Qa,Qb,Qc,Qd,Qe,Qf,Qg,Qh,Qi,Qj,Qk,Ql,Qm,Qn,true_and,and_true,Qo,Qp,Qq,Qr,Qs,Qt,Qu,Qv,Qw,Qx,Qy,Qz,Ra,Rb,Rc,Rd,Re,Rf,Rg,Rh,Ri,Rj,Rk,Rl,Rm,Ya,Yb,Yc,Rn,Ro,Rp,Yd,Ye,Rq,Rs,Rt,Ru,Rv,Rw,Rx]
    have:=rest s ow (.bool false) hcl (Step.refl _ _ _)
    simp only[ptrA,Qa,Qb,Qc,Qd,Qe,Qf,Qg,Qh,Qi,Qj,Qk,Ql,Qm,Qn,true_and,and_true,Qo,Qp,Qq,Qr,Qs,Qt,Qu,Qv,Qw,Qx,Qy,Qz,Ra,Rb,Rc,Rd,Re,Rf,Rg,Rh,Ri,Rj,Rk,Rl,Rm,Ya,Yb,Yc,Rn,Ro,Rp,Yd,Ye,Rq,Rs,Rt,Ru,Rv,Rw,Rx]at this ⊢
    exact this
theorem add_bad{E:Env}(hE:Good E){ow:Ow}{s:ASt}{p:Nat}{x:Sf}{v:Sv}(h:SAt ow s p x v){n:Nat}(hn:n<100000000)(hval:v.value.length=n+1){L:List Int}(hlen:L.length≤1000000)(hL:∃q∈L,¬ VL n q){b:Nat}{u:AV}(hb:b≤s.next)(hu:SliceAt b s u (ivs L)):
    WF E 36 [ptrA p,u] (fun r s'=>r=iv 2∧Old s.next s s') s:=by
  have hptr:∀i,Made.val i .ptr=.ptr (some (i,0)):=fun _=>rfl
  have hbox:boxA 44 (AV.ptr (some (p,0)))=some (mkRow 44 0 [ptrA p],.ptr):=by simp[boxA,ptrA,AV.cells]
  have he:=eq_ptr44 p
  have st0:Step (fun _=>False) ow s (ext ow s.next (p,21,0)) (newObj s (mkRow 44 0 [ptrA p])):=Step.new _ ow s _ _
  have h0:=h.keep st0 (fun _ q=>q.elim)
  have b0:Box1 (newObj s (mkRow 44 0 [ptrA p])) s.next (ptrA p):=Box1.new
  have l0:=b0.load ag44
  have u0:SliceAt b (newObj s (mkRow 44 0 [ptrA p])) u (ivs L):=hu.old (Old.new s _) hb
  have o0:Old s.next s (newObj s (mkRow 44 0 [ptrA p])):=Old.new s _
  generalize hs0:newObj s (mkRow 44 0 [ptrA p])=s0 at *
  have hany:(firstI (fun q=>!decide (VL n q)) L 0).isSome=true:=by
    rw[firstI_some]
    obtain⟨q,hq,hv⟩:=hL
    exact⟨q,hq,by simp[hv]⟩
  simp only[ptrA]at hbox l0 he
  refine hE.go comp36 (by decide) rfl ?_
  have hs0':newObj s (mkRow 44 0 [.ptr (some (p,0))])=s0:=hs0
  simp only[c36,c36o0,ptrA,hbox,hs0',hptr,c36o1,l0,he,c36o3,List.take_zero,List.drop_zero,Qa,Qb,Qc,Qd,Qe,Qf,Qg,Qh,Qi,Qj,Qk,Ql,Qm,Qn,true_and,and_true,Qo,Qp,Qq,Qr,Qs,Qt,Qu,Qv,Qw,Qx,Qy,Qz,Ra,Rb,Rc,Rd,Re,Rf,Rg,Rh,Ri,Rj,Rk,Rl,Rm,Ya,Yb,Yc,Rn,Ro,Rp,Yd,Ye,Rq,Rs,Rt,Ru,Rv,Rw,Rx]
  refine(containsf_ok hE (f:=fun q=>!decide (VL n q)) (g:=73) (cp:=[.ptr (some (s.next,0))]) (fun q hq=>bad_ok hE h0 hn hval b0 q) (by omega) u0).mono ?_
  rintro _ _ ⟨rfl,rfl⟩
  simp only[hany,c36o4,Qa,Qb,Qc,Qd,Qe,Qf,Qg,Qh,Qi,Qj,Qk,Ql,Qm,Qn,true_and,and_true,Qo,Qp,Qq,Qr,Qs,Qt,Qu,Qv,Qw,Qx,Qy,Qz,Ra,Rb,Rc,Rd,Re,Rf,Rg,Rh,Ri,Rj,Rk,Rl,Rm,Ya,Yb,Yc,Rn,Ro,Rp,Yd,Ye,Rq,Rs,Rt,Ru,Rv,Rw,Rx]
  exact o0
theorem add_ok {E : Env} (hE : Good E) {ow : Ow} {s : ASt} {p : Nat} {x : Sf} {v : Sv} (h : SAt ow s p x v) {n : Nat} (hf : Fit n v) (hv3 : Val3 (backV v 0).value) (hT : v.trace.length ≤ 1000000) (hW : Tot v.watches ≤ 90000000) {L : List Int} (hlen : L.length ≤ 12) (hL : ∀ q ∈ L, VL n q) {b : Nat} {u : AV} (hb : b ≤ s.next) (hu : SliceAt b s u (ivs L)) (hus : ∀ j, slot u = some j → (ow j).1 ≠ p ∧ j < s.next) :
    WF E 36 [ptrA p,u] (fun r s'=>r=iv 0∧∃v' ow' x',AddR (backV v 0) L v'∧SAt ow' s' p x' v'∧Step (mine p) ow s ow' s') s:=by
  have hptr:∀i,Made.val i .ptr=.ptr (some (i,0)):=fun _=>rfl
  have hbox:boxA 44 (AV.ptr (some (p,0)))=some (mkRow 44 0 [ptrA p],.ptr):=by simp[boxA,ptrA,AV.cells]
  have he:=eq_ptr44 p
  have hsm:=hf.siz.small
  have hval:=hf.siz.value
  have st0:Step (fun _=>False) ow s (ext ow s.next (p,21,0)) (newObj s (mkRow 44 0 [ptrA p])):=Step.new _ ow s _ _
  have h0:=h.keep st0 (fun _ q=>q.elim)
  have b0:Box1 (newObj s (mkRow 44 0 [ptrA p])) s.next (ptrA p):=Box1.new
  have l0:=b0.load ag44
  have u0:SliceAt b (newObj s (mkRow 44 0 [ptrA p])) u (ivs L):=hu.old (Old.new s _) hb
  have t0:(ext ow s.next (p,21,0)) s.next=(p,21,0):=ext_ge (Nat.le_refl _)
  have us0:∀j,slot u=some j→((ext ow s.next (p,21,0)) j).1≠p∧j<s.next:=fun j hj=>by
    obtain⟨q1,q2⟩:=hus j hj
    exact⟨by rw[ext_lt q2];exact q1,q2⟩
  generalize hs0:newObj s (mkRow 44 0 [ptrA p])=s0 at *
  have n0:s0.next=s.next+1:=by rw[← hs0];rfl
  generalize ext ow s.next (p,21,0)=ow0 at *
  have hany:(firstI (fun q=>!decide (VL n q)) L 0).isSome=false:=by
    rw[Bool.eq_false_iff,Ne,firstI_some]
    rintro⟨q,hq,hv⟩
    have:=hL q hq
    simp[this]at hv
  simp only[ptrA]at hbox l0 he
  refine hE.go comp36 (by decide) rfl ?_
  have hs0':newObj s (mkRow 44 0 [.ptr (some (p,0))])=s0:=hs0
  simp only[c36,c36o0,ptrA,hbox,hs0',hptr,c36o1,l0,he,c36o3,List.take_zero,List.drop_zero,Qa,Qb,Qc,Qd,Qe,Qf,Qg,Qh,Qi,Qj,Qk,Ql,Qm,Qn,true_and,and_true,Qo,Qp,Qq,Qr,Qs,Qt,Qu,Qv,Qw,Qx,Qy,Qz,Ra,Rb,Rc,Rd,Re,Rf,Rg,Rh,Ri,Rj,Rk,Rl,Rm,Ya,Yb,Yc,Rn,Ro,Rp,Yd,Ye,Rq,Rs,Rt,Ru,Rv,Rw,Rx]
  refine(containsf_ok hE (f:=fun q=>!decide (VL n q)) (g:=73) (cp:=[.ptr (some (s.next,0))]) (fun q hq=>bad_ok hE h0 hsm hval b0 q) (by omega) u0).mono ?_
  rintro _ _ ⟨rfl,rfl⟩
  simp only[hany,c36o5,l0,Qa,Qb,Qc,Qd,Qe,Qf,Qg,Qh,Qi,Qj,Qk,Ql,Qm,Qn,true_and,and_true,Qo,Qp,Qq,Qr,Qs,Qt,Qu,Qv,Qw,Qx,Qy,Qz,Ra,Rb,Rc,Rd,Re,Rf,Rg,Rh,Ri,Rj,Rk,Rl,Rm,Ya,Yb,Yc,Rn,Ro,Rp,Yd,Ye,Rq,Rs,Rt,Ru,Rv,Rw,Rx]
  have hback:WF E 63 [.ptr (some (p,0)),.int .i64 0] (fun _ s'=>∃x',SAt ow0 s' p x' (backV v 0)∧Step (mineB p) ow0 s0 ow0 s'∧x'.w=x.w) s0:=back_ok' hE h0 hf (level:=0) (by decide)
  refine hback.mono ?_
  rintro _ s1 ⟨x1,h1,st1,_⟩
  obtain⟨ph,va,wh,tr,li,hd,ebk,z1,z2,z3,z4,z5⟩:=backV_eq v 0
  have hz1:=hf.siz.back 0
  have hT1:(backV v 0).trace.length≤1000000:=by rw[ebk];exact hT
  have hW1:Tot (backV v 0).watches≤90000000:=by rw[ebk];exact hW
  generalize backV v 0=vb at *
  have hn1:=st1.next
  have b1:Box1 s1 s.next (ptrA p):=b0.keep (st1.heap s.next (by omega) (by rw[t0];exact fun q=>absurd q.2.2.2 (by show ¬ 21<16;omega)))
  have l1:=b1.load ag44
  simp only[ptrA]at l1
  have u1:SliceAt b s1 u (ivs L):=u0.keep fun j hj=>st1.heap j (by have:=(us0 j hj).2;omega) fun q=>(us0 j hj).1 q.1
  have stA:Step (mine p) ow s ow0 s1:=(st0.mono fun _ q=>q.elim).trans st1.b
  simp only[c36o6,Qa,Qb,Qc,Qd,Qe,Qf,Qg,Qh,Qi,Qj,Qk,Ql,Qm,Qn,true_and,and_true,Qo,Qp,Qq,Qr,Qs,Qt,Qu,Qv,Qw,Qx,Qy,Qz,Ra,Rb,Rc,Rd,Re,Rf,Rg,Rh,Ri,Rj,Rk,Rl,Rm,Ya,Yb,Yc,Rn,Ro,Rp,Yd,Ye,Rq,Rs,Rt,Ru,Rv,Rw,Rx]
  refine(bare_ok hE hlen (fun q hq=>⟨by have:=(hL q hq).2;omega,by have:=(hL q hq).2;omega⟩) (by omega) u1).mono ?_
  rintro _ s2 ⟨w,rfl,hw,o2⟩
  have h2:=h1.keep (Step.old (m:=fun _=>False) o2 (p,15,s2.next)) (fun _ q=>q.elim)
  have b2:Box1 s2 s.next (ptrA p):=b1.keep (o2.2 _ (by omega))
  have l2:=b2.load ag44
  have ldb:=h2.ld_broken
  simp only[ptrA]at l2
  have hx:∀ (a b:AV),(AV.tuple [a,b])=.tuple [a,b]:=fun _ _=>rfl
  cases ht:tautV (ownV L)with
  | true =>
    simp only[c36o7,c36o8,Qa,Qb,Qc,Qd,Qe,Qf,Qg,Qh,Qi,Qj,Qk,Ql,Qm,Qn,true_and,and_true,Qo,Qp,Qq,Qr,Qs,Qt,Qu,Qv,Qw,Qx,Qy,Qz,Ra,Rb,Rc,Rd,Re,Rf,Rg,Rh,Ri,Rj,Rk,Rl,Rm,Ya,Yb,Yc,Rn,Ro,Rp,Yd,Ye,Rq,Rs,Rt,Ru,Rv,Rw,Rx]
    exact⟨vb,_,x1,.none (.inl ht),h2,stA.trans (Step.old o2 _)⟩
  | false =>
    cases hbr:vb.broken with
    | true =>
      rw[hbr]at ldb
      simp only[c36o7,c36o8,l2,nilCheck_ptr,fa91_10,ldb,Qa,Qb,Qc,Qd,Qe,Qf,Qg,Qh,Qi,Qj,Qk,Ql,Qm,Qn,true_and,and_true,Qo,Qp,Qq,Qr,Qs,Qt,Qu,Qv,Qw,Qx,Qy,Qz,Ra,Rb,Rc,Rd,Re,Rf,Rg,Rh,Ri,Rj,Rk,Rl,Rm,Ya,Yb,Yc,Rn,Ro,Rp,Yd,Ye,Rq,Rs,Rt,Ru,Rv,Rw,Rx]
      exact⟨vb,_,x1,.none (.inr hbr),h2,stA.trans (Step.old o2 _)⟩
    | false =>
      rw[hbr]at ldb
      simp only[c36o7,l2,nilCheck_ptr,fa91_10,ldb,c36o9,List.take_zero,List.drop_zero,Qa,Qb,Qc,Qd,Qe,Qf,Qg,Qh,Qi,Qj,Qk,Ql,Qm,Qn,true_and,and_true,Qo,Qp,Qq,Qr,Qs,Qt,Qu,Qv,Qw,Qx,Qy,Qz,Ra,Rb,Rc,Rd,Re,Rf,Rg,Rh,Ri,Rj,Rk,Rl,Rm,Ya,Yb,Yc,Rn,Ro,Rp,Yd,Ye,Rq,Rs,Rt,Ru,Rv,Rw,Rx]
      have hVO:∀q∈ownV L,VL n q:=fun q hq=>hL q (ownV_mem' hq)
      have hOl:=ownV_len L
      refine(ssort_ok hE hw (by omega) (P:=VL n) (c:=fun a b=>isV vb.value b - isV vb.value a) (g:=76) (cp:=[.ptr (some (s.next,0))]) hVO ?_).mono ?_
      · intro t a b f1 f2 pa pb
        have ot:Old s1.next s2 t:=⟨by omega,fun y hy=>f1 y fun e=>by
          rcases hw with⟨a,r1,r2⟩ | ⟨i,G,r1,r2,r3,r4⟩
          · rw[r1]at e;cases a<;>cases e
          · rw[r1]at e;injection e with e;omega⟩
        have ht':=h1.keep (Step.old (m:=fun _=>False) (o2.trans ot) (0,0,0)) (fun _ q=>q.elim)
        exact cmp_ok hE ht' hv3 hsm hz1.value (b2.keep (ot.2 _ (by omega))) pa pb
      rintro _ s3 ⟨hw3,n3,f3⟩
      have o3:Old s1.next s2 s3:=⟨by omega,fun y hy=>f3 y fun e=>by
          rcases hw with⟨a,r1,r2⟩ | ⟨i,G,r1,r2,r3,r4⟩
          · rw[r1]at e;cases a<;>cases e
          · rw[r1]at e;injection e with e;omega⟩
      have o13:Old s1.next s1 s3:=o2.trans o3
      have hO:stabV (fun a b=>isV vb.value b - isV vb.value a) (ownV L)=orderV vb L:=rfl
      rw[hO]at hw3
      have hbl:=bld104_one hw3.slice.isCell.2
      have hbx:=box104 hw3.slice.isCell.2 false false
      generalize hs4:newObj s3 (mkRow 104 0 [w,.bool false,.bool false])=s4
      have n4:s4.next=s3.next+1:=by rw[← hs4];rfl
      have o4:Old s3.next s3 s4:=by rw[← hs4];exact Old.new s3 _
      have o14:Old s1.next s1 s4:=o13.trans (o4.mono (by have:=o13.1;omega))
      have hbn:BoxN s4 s3.next [w,.bool false,.bool false]:=by rw[← hs4];exact BoxN.new
      have hlO:(orderV vb L).length=(ownV L).length:=stabV_len _ _
      have b4:Box1 s4 s.next (ptrA p):=b1.keep (o14.2 _ (by omega))
      have l4:=b4.load ag44
      simp only[ptrA]at l4
      have st4:Step (fun _=>False) ow0 s1 (fun j=>if j<s1.next then ow0 j else if j=s3.next then (p,14,s3.next)else (p,15,s3.next)) s4:=⟨o14.1,fun j hj _=>if_pos hj,fun j hj _=>o14.2 j hj⟩
      have tc:(fun j=>if j<s1.next then ow0 j else if j=s3.next then (p,14,s3.next)else (p,15,s3.next):Ow) s3.next=(p,14,s3.next):=by
        show(if _ then _ else if _ then _ else _:Tag)=_
        rw[if_neg (by have:=o13.1;omega),if_pos rfl]
      have tr':∀i,s1.next≤i→i<s3.next→(fun j=>if j<s1.next then ow0 j else if j=s3.next then (p,14,s3.next)else (p,15,s3.next):Ow) i=(p,15,s3.next):=fun i r1 r2=>by
        show(if _ then _ else if _ then _ else _:Tag)=_
        rw[if_neg (by omega),if_neg (by omega)]
      have tb:(fun j=>if j<s1.next then ow0 j else if j=s3.next then (p,14,s3.next)else (p,15,s3.next):Ow) s.next=(p,21,0):=by
        show(if _ then _ else if _ then _ else _:Tag)=_
        rw[if_pos (by omega)];exact t0
      have h4:=h1.keep st4 (fun _ q=>q.elim)
      generalize (fun j=>if j<s1.next then ow0 j else if j=s3.next then (p,14,s3.next)else (p,15,s3.next):Ow)=ow4 at *
      have stB:Step (mine p) ow s ow4 s4:=stA.trans (st4.mono fun _ q=>q.elim)
      by_cases hnil:ownV L=[]
      · have hO0 : orderV vb L = [] := by unfold orderV; rw [hnil]; rfl
        have lnw:∀s,lenA Try.prog s 23 w=some (iv 0):=fun s=>by
          have:=hw3.slice.len Try.underlying23 s
          rw[hO0]at this
          exact this
        have d1:decide ((1:Int)<0)=false:=rfl
        simp only[c36o10,hbl,hbx,hs4,hptr,c36o11,lnw,d1,c36o13,decide_true,c36o14,l4,Qa,Qb,Qc,Qd,Qe,Qf,Qg,Qh,Qi,Qj,Qk,Ql,Qm,Qn,true_and,and_true,Qo,Qp,Qq,Qr,Qs,Qt,Qu,Qv,Qw,Qx,Qy,Qz,Ra,Rb,Rc,Rd,Re,Rf,Rg,Rh,Ri,Rj,Rk,Rl,Rm,Ya,Yb,Yc,Rn,Ro,Rp,Yd,Ye,Rq,Rs,Rt,Ru,Rv,Rw,Rx]
        refine(fail_ok hE h4 hT1).mono ?_
        rintro _ s5 ⟨ow5,x5,g1,g2,_⟩
        simp only[c36o17,Qa,Qb,Qc,Qd,Qe,Qf,Qg,Qh,Qi,Qj,Qk,Ql,Qm,Qn,true_and,and_true,Qo,Qp,Qq,Qr,Qs,Qt,Qu,Qv,Qw,Qx,Qy,Qz,Ra,Rb,Rc,Rd,Re,Rf,Rg,Rh,Ri,Rj,Rk,Rl,Rm,Ya,Yb,Yc,Rn,Ro,Rp,Yd,Ye,Rq,Rs,Rt,Ru,Rv,Rw,Rx]
        exact⟨failV vb,ow5,x5,.nil ht hbr hnil,g1,stB.trans g2.b⟩
      · have hOne : orderV vb L ≠ [] := fun e => hnil (List.length_eq_zero_iff.1 (by rw [← hlO, e]; rfl))
        have hOk:ClsOk n (orderV vb L):=⟨fun q hq=>hVO q ((stabV_mem _ _ _).1 hq),by omega⟩
        have hfresh:vb.cl s3.next=none:=by
          cases hcc:vb.cl s3.next with
          | none=>rfl
          | some l =>
            obtain⟨_,_,_,q,_⟩:=h1.cls _ l hcc
            have:=o13.1
            omega
        have hw4:IntBuf s1.next s4 w (orderV vb L):=hw3.keep (by omega) fun j r1 r2=>o4.2 j r2
        have hwb:Buf ow4 (p,15,s3.next) s4 w (ivs (orderV vb L)):=hw4.buf hOne fun i _ _ e=>by
          rcases hw3 with⟨a,r1,r2⟩ | ⟨j,G,r1,r2,r3,r4⟩
          · exact absurd r2 hOne
          · rw[r1]at e
            injection e with e
            subst e
            exact tr' j r2 r3
        have hcl4:SAt ow4 s4 p x1 (addCl vb s3.next (orderV vb L,false,false)):=h4.clause hfresh ⟨w,hbn,tc,by omega,hwb⟩
        have hK:=add_end hE h4 hz1 hv3 hT1 hW1 hfresh hOk hOne b4 ⟨tb,by have:=o14.1;omega⟩ hcl4 hwb (K:=Ends Try.prog c36.results (fun r s'=>r=iv 0∧∃v' ow' x',AddR vb L v'∧SAt ow' s' p x' v'∧Step (mine p) ow s ow' s')) (x1:=u) (x3:=iv 0) (x5:=.bool true) (x7:=.bool false) (x8:=.bool false) (x9:=.bool false) (x10:=undefA) (x11:=undefA) (x12:=undefA) ?_
        · simp only [c36o10, hbl, hbx, hs4, hptr, Qa, Qb, Qc, Qd, Qe, Qf, Qg, Qh, Qi, Qj, Qk, Ql, Qm, Qn, true_and, and_true, Qo, Qp, Qq, Qr, Qs, Qt, Qu, Qv, Qw, Qx, Qy, Qz, Ra, Rb, Rc, Rd, Re, Rf, Rg, Rh, Ri, Rj, Rk, Rl, Rm, Ya, Yb, Yc, Rn, Ro, Rp, Yd, Ye, Rq, Rs, Rt, Ru, Rv, Rw, Rx]
          simp only[ptrA,Qa,Qb,Qc,Qd,Qe,Qf,Qg,Qh,Qi,Qj,Qk,Ql,Qm,Qn,true_and,and_true,Qo,Qp,Qq,Qr,Qs,Qt,Qu,Qv,Qw,Qx,Qy,Qz,Ra,Rb,Rc,Rd,Re,Rf,Rg,Rh,Ri,Rj,Rk,Rl,Rm,Ya,Yb,Yc,Rn,Ro,Rp,Yd,Ye,Rq,Rs,Rt,Ru,Rv,Rw,Rx]at hK
          exact hK
        · intro s' ow' x' V g1 g2 g3
          simp only[c36,g3,Qa,Qb,Qc,Qd,Qe,Qf,Qg,Qh,Qi,Qj,Qk,Ql,Qm,Qn,true_and,and_true,Qo,Qp,Qq,Qr,Qs,Qt,Qu,Qv,Qw,Qx,Qy,Qz,Ra,Rb,Rc,Rd,Re,Rf,Rg,Rh,Ri,Rj,Rk,Rl,Rm,Ya,Yb,Yc,Rn,Ro,Rp,Yd,Ye,Rq,Rs,Rt,Ru,Rv,Rw,Rx]
          exact⟨_,ow',x',.put ht hbr hnil hfresh,g1,stB.trans g2⟩
def manyV(v:Sv):Sv:={ v with many:=wrapA .i64 (v.many+1) }
def guessV(v:Sv)(b:Nat):Sv:=assignV { v with limits:=v.limits++[(v.trail.length:Int)] } ((b:Int) * v.phase.getD b 0) none
def modelV(v:Sv):Sv:=backV { v with model:=v.value } 0
abbrev lst0:Lst:=⟨[],0,[],0,0⟩
structure SolveLaw(n most:Nat)(I:Nat→Sv→Prop)(R:Int→Sv→Prop):Prop where
  ok:∀ {k v},I k v→k≤most∧Inv2 n 50000000 v
  brk:∀ {k v},I k v→v.broken=true→R 0 v
  mid:∀ {k v c v1},I k v→v.broken=false→PropR v c v1→v1.trace.length≤1000000∧v1.learned.length≤100000000∧(v1.learned.length:Int)<v1.room∧(∀c ls b,v1.cl c=some (ls,b)→ClsOk n ls)∧∀b,1≤b→b≤n→v1.phase.getD b 0=1∨v1.phase.getD b 0=-1
  fail:∀ {k v c v1},I k v→v.broken=false→PropR v (some c) v1→v1.limits=[]→R 0 (failV v1)
  unk:∀ {k v c v1},I k v→v.broken=false→PropR v (some c) v1→v1.limits≠[]→most≤k→R 2 (backV v1 0)
  lrn:∀ {k v c v1},I k v→v.broken=false→PropR v (some c) v1→v1.limits≠[]→k<most→∃r,LearnR v1 c lst0 v1.trail.length 0 r∧ClsOk n (learnL v1 r)∧0≤r.lev∧r.lev<100000000 ∧
    ∀h cn,h.length=v1.heat.length→v1.cl cn=none→I (k+1) (keepV (backV (heatV (manyV v1) h) r.lev.toNat) cn (learnL v1 r))
  cool:∀ {k v v1},I k v→v.broken=false→PropR v none v1→∀h,h.length=v1.heat.length→I k (backV (heatV v1 h) 0)∧(backV (heatV v1 h) 0).learned=v1.learned
  maybe:∀ {k v v1},I k v→v.broken=false→PropR v none v1→(∀j,1≤j→j<n+1→v1.value.getD j 0≠0)→R 1 (modelV v1)
  dec:∀ {k v v1 b},I k v→v.broken=false→PropR v none v1→1≤b→b≤n→v1.value.getD b 0=0→I k (guessV v1 b)
theorem LearnR.many{v:Sv}{c at_:Nat}{a r:Lst}{l:Int}(h:LearnR v c a at_ l r):LearnR (manyV v) c a at_ l r:=by
  induction h with
  | last hc ha hs ho=>exact .last (v:=manyV v) hc ha hs ho
  | more hc ha hs ho hw hr ih=>exact .more (v:=manyV v) hc ha hs ho hw ih
theorem propStep_trail{v:Sv}:v.trail.length≤(propStep v).2.trail.length:=by
  unfold propStep propB
  have:=sub_trail (n:=0) (l:=-(v.trail.getD v.head.toNat 0)) (v.watches.getD (place (-(v.trail.getD v.head.toNat 0))) []) [] (propA v (place (-(v.trail.getD v.head.toNat 0))))
  dsimp only
  split<;>exact this
theorem PropR.trail{v v':Sv}{r:Option Nat}(h:PropR v r v'):v.trail.length≤v'.trail.length:=by
  induction h with
  | done _=>exact Nat.le_refl _
  | more h1 h2 _ ih =>
    have:=propStep_trail (v:=‹Sv›)
    rename_i v v1 v' r _
    have:=propStep_trail (v:=v)
    rw[h2]at this
    exact Nat.le_trans this ih
  | bad h1 h2 =>
    rename_i v v1 c
    have:=propStep_trail (v:=v)
    rw[h2]at this
    exact this
section
variable{E:Env}{K:List AV→ASt→Prop}{ow:Ow}{s:ASt}{p:Nat}{x:Sf}{v:Sv}
theorem S_o15(h:SAt ow s p x v){x1 x2 x3 x4 x5 x6 x7 x8 x9 x10 x11 x12 x13:AV}(hK:∀s',SAt ow s' p x (manyV v)→Step (mineB p) ow s ow s'→K [AV.ptr (some (p,0)),x1,x2,x3,x4,x5,x6,x7,x8,x9,x10,x11,x12,x13] s'):
    Qb E c34o15 K [] [AV.ptr (some (p,0)),x1,x2,x3,x4,x5,x6,x7,x8,x9,x10,x11,x12,x13] s:=by
  obtain⟨s',g1,g2,g3,g4⟩:=h.set_many (wrapA .i64 (v.many+1))
  simp only[c34o15,nilCheck_ptr,fa91_13,h.ld_many,bin_addw,on2,g1,withV,Qa,Qb,Qc,Qd,Qe,Qf,Qg,Qh,Qi,Qj,Qk,Ql,Qm,Qn,true_and,and_true,Qo,Qp,Qq,Qr,Qs,Qt,Qu,Qv,Qw,Qx,Qy,Qz,Ra,Rb,Rc,Rd,Re,Rf,Rg,Rh,Ri,Rj,Rk,Rl,Rm,Ya,Yb,Yc,Rn,Ro,Rp,Yd,Ye,Rq,Rs,Rt,Ru,Rv,Rw,Rx]
  exact hK s' g2 g3
theorem S_o16(hE:Good E)(h:SAt ow s p x (manyV v)){n:Nat}(hn:n≤500000)(hf:Fit n v)(hcl:∀c ls b,v.cl c=some (ls,b)→ClsOk n ls){c:Nat}{r:Lst}(hr:LearnR v c lst0 v.trail.length 0 r)(hL:ClsOk n (learnL v r))(hl0:0≤r.lev)(hl1:r.lev<100000000)(hT:v.trace.length≤1000000)(hW:Tot v.watches≤90000000)(hle:v.learned.length≤100000000){x1 x2 x3 x4 x6 x7 x8 x9 x10 x11 x12 x13:AV}
    (hK:∀s' ow' x' h' cn,h'.length=v.heat.length→v.cl cn=none→SAt ow' s' p x' (keepV (backV (heatV (manyV v) h') r.lev.toNat) cn (learnL v r))→Step (mine p) ow s ow' s'→K [AV.ptr (some (p,0)),x1,x2,x3,x4,.ptr (some (c,0)),x6,x7,x8,x9,x10,x11,x12,x13] s'):
    Qb E c34o16 K [] [AV.ptr (some (p,0)),x1,x2,x3,x4,.ptr (some (c,0)),x6,x7,x8,x9,x10,x11,x12,x13] s:=by
  have hfm:Fit n (manyV v):=⟨⟨hf.siz.small,hf.siz.w,hf.siz.value,hf.siz.level,hf.siz.why,hf.siz.heat,hf.siz.phase,hf.siz.trail,hf.siz.limits⟩,hf.val,hf.lits,hf.lims⟩
  have hlm:learnL (manyV v) r=learnL v r:=rfl
  have hcl':∀c ls b,(manyV v).cl c=some (ls,b)→ClsOk n ls:=hcl
  have hr':LearnR (manyV v) c lst0 (manyV v).trail.length 0 r:=hr.many
  simp only[c34o16,Qa,Qb,Qc,Qd,Qe,Qf,Qg,Qh,Qi,Qj,Qk,Ql,Qm,Qn,true_and,and_true,Qo,Qp,Qq,Qr,Qs,Qt,Qu,Qv,Qw,Qx,Qy,Qz,Ra,Rb,Rc,Rd,Re,Rf,Rg,Rh,Ri,Rj,Rk,Rl,Rm,Ya,Yb,Yc,Rn,Ro,Rp,Yd,Ye,Rq,Rs,Rt,Ru,Rv,Rw,Rx]
  refine(learn_ok hE h (by omega) hfm hcl' hr').mono ?_
  rintro _ s1 ⟨lv,ow1,h',rfl,I1,h1,hl,b1,st1⟩
  rw[hlm]at b1
  have hf1:Fit n (heatV (manyV v) h'):=⟨⟨hf.siz.small,hf.siz.w,hf.siz.value,hf.siz.level,hf.siz.why,hl.trans hf.siz.heat,hf.siz.phase,hf.siz.trail,hf.siz.limits⟩,hf.val,hf.lits,hf.lims⟩
  have e:iv r.lev=iv ((r.lev.toNat:Nat):Int):=by rw[Int.toNat_of_nonneg hl0]
  have hlen:(learnL v r).length=r.lits.length+1:=by
    unfold learnL
    split
    · rfl
    · rw[swapL_len];rfl
  have hsm:=I1.small
  have hle':=I1.len
  simp only[Qa,Qb,Qc,Qd,Qe,Qf,Qg,Qh,Qi,Qj,Qk,Ql,Qm,Qn,true_and,and_true,Qo,Qp,Qq,Qr,Qs,Qt,Qu,Qv,Qw,Qx,Qy,Qz,Ra,Rb,Rc,Rd,Re,Rf,Rg,Rh,Ri,Rj,Rk,Rl,Rm,Ya,Yb,Yc,Rn,Ro,Rp,Yd,Ye,Rq,Rs,Rt,Ru,Rv,Rw,Rx]
  rw[e]
  refine(keep_ok hE h1 hf1 (level:=r.lev.toNat) (by omega) b1 hL (by omega) (by omega) hT hW hle).mono ?_
  rintro _ s2 ⟨cn,ow2,x2,f1,f2,f3⟩
  simp only[Qa,Qb,Qc,Qd,Qe,Qf,Qg,Qh,Qi,Qj,Qk,Ql,Qm,Qn,true_and,and_true,Qo,Qp,Qq,Qr,Qs,Qt,Qu,Qv,Qw,Qx,Qy,Qz,Ra,Rb,Rc,Rd,Re,Rf,Rg,Rh,Ri,Rj,Rk,Rl,Rm,Ya,Yb,Yc,Rn,Ro,Rp,Yd,Ye,Rq,Rs,Rt,Ru,Rv,Rw,Rx]
  exact hK s2 ow2 x2 h' cn hl f1 f2 (st1.trans f3)
theorem S_o24(hE:Good E)(h:SAt ow s p x v){n:Nat}(hn:n≤500000)(hval:v.value.length=n+1){x1 x2 x3 x4 x5 x6 x7 x8 x9 x10 x11 x12 x13:AV}(hK:∀s' ow' x',SAt ow' s' p x' { v with model:=v.value }→Step (mine p) ow s ow' s'→K [AV.ptr (some (p,0)),x1,x2,x3,x4,x5,x6,x7,x8,x9,x10,x11,x12,x13] s'):
    Qb E c34o24 K [] [AV.ptr (some (p,0)),x1,x2,x3,x4,x5,x6,x7,x8,x9,x10,x11,x12,x13] s:=by
  simp only[c34o24,nilCheck_ptr,fa91_2,h.ld_val,Qa,Qb,Qc,Qd,Qe,Qf,Qg,Qh,Qi,Qj,Qk,Ql,Qm,Qn,true_and,and_true,Qo,Qp,Qq,Qr,Qs,Qt,Qu,Qv,Qw,Qx,Qy,Qz,Ra,Rb,Rc,Rd,Re,Rf,Rg,Rh,Ri,Rj,Rk,Rl,Rm,Ya,Yb,Yc,Rn,Ro,Rp,Yd,Ye,Rq,Rs,Rt,Ru,Rv,Rw,Rx]
  refine(clone_ok hE (L:=v.value) (Nat.le_refl _) h.value.slice (by omega)).mono ?_
  rintro u s1 ⟨hu,ho⟩
  have st:Step (fun _=>False) ow s (ext ow s.next (p,11,0)) s1:=Step.old ho _
  have h1:=h.keep st (fun _ q=>q.elim)
  have hub:Buf (ext ow s.next (p,11,0)) (p,11,0) s1 u (ivs v.value):=by
    rcases hu with⟨a,r1,r2⟩ | ⟨i,r1,r2,r3,r4⟩
    · rw[r2]at hval;cases hval
    · have hb:IntBuf s.next s1 u v.value:=.inr ⟨i,[],r1,r2,r3,by simpa using r4⟩
      exact hb.buf (fun e=>by rw[e]at hval;cases hval) fun j q1 _ _=>ext_ge q1
  obtain⟨s2,g1,g2,g3,g4⟩:=h1.set_model hub
  simp only[fa91_11,nilCheck_ptr,on2,g1,withV,Qa,Qb,Qc,Qd,Qe,Qf,Qg,Qh,Qi,Qj,Qk,Ql,Qm,Qn,true_and,and_true,Qo,Qp,Qq,Qr,Qs,Qt,Qu,Qv,Qw,Qx,Qy,Qz,Ra,Rb,Rc,Rd,Re,Rf,Rg,Rh,Ri,Rj,Rk,Rl,Rm,Ya,Yb,Yc,Rn,Ro,Rp,Yd,Ye,Rq,Rs,Rt,Ru,Rv,Rw,Rx]
  exact hK s2 _ _ g2 ((st.mono fun _ q=>q.elim).trans g3.b)
theorem S_o27(h:SAt ow s p x v)(hl:v.limits.length≤1000000000){x1 x2 x3 x4 x5 x6 x7 x8 x9 x10 x11 x12 x13:AV}(hK:∀s' ow' x',SAt ow' s' p x' { v with limits:=v.limits++[(v.trail.length:Int)] }→Step (mine p) ow s ow' s'→K [AV.ptr (some (p,0)),x1,x2,x3,x4,x5,x6,x7,x8,x9,x10,x11,x12,x13] s'):
    Qb E c34o27 K [] [AV.ptr (some (p,0)),x1,x2,x3,x4,x5,x6,x7,x8,x9,x10,x11,x12,x13] s:=by
  have hms:∀ (m:Nat) (i:Nat),Made.val i (.slice m)=.slice (some (i,0)) m (some m):=fun _ _=>rfl
  have ln:∀s,lenA Try.prog s 23 x.tr=some (iv (v.trail.length:Int)):=fun s=>by
    have:=h.trail.len Try.underlying23 s
    rw[List.length_map]at this
    exact this
  have bl:=bld_one (P:=Try.prog) (t:=23) (v:=iv (v.trail.length:Int)) Try.underlying23 sz3 zr3 rfl rfl
  have st:Step (fun _=>False) ow s (ext ow s.next (0,0,0)) (newObj s (mkRow 3 1 [iv (v.trail.length:Int)])):=Step.new _ ow s _ _
  have h1:=h.keep st (fun _ q=>q.elim)
  obtain⟨u,s1,s2,ow',g1,g2,g3,g4⟩:=h1.push_limits hl (v.trail.length:Int) (q:=s.next) (ty:=3) (sz':=1) (by rw[heap_new,if_pos rfl])
  simp only[c34o27,nilCheck_ptr,fa91_7,fa91_8,h.ld_lim,h.ld_tr,ln,bl,hms,g1,on2,g2,withV,Qa,Qb,Qc,Qd,Qe,Qf,Qg,Qh,Qi,Qj,Qk,Ql,Qm,Qn,true_and,and_true,Qo,Qp,Qq,Qr,Qs,Qt,Qu,Qv,Qw,Qx,Qy,Qz,Ra,Rb,Rc,Rd,Re,Rf,Rg,Rh,Ri,Rj,Rk,Rl,Rm,Ya,Yb,Yc,Rn,Ro,Rp,Yd,Ye,Rq,Rs,Rt,Ru,Rv,Rw,Rx]
  exact hK s2 ow' _ g3 ((st.mono fun _ q=>q.elim).trans (g4.n (by decide) (by decide) (by decide)).b)
end
theorem neg_abs{x y:Int}(h:y.natAbs=x.natAbs):y=x∨y=-x:=by omega
theorem Inv1.pos {n : Nat} {v : Sv} (h : Inv1 n v) {x : Int} (hx : x ≠ 0) : 0 < Go.Proofs.Ytilhhmkdcoajnaa.Am.isV v.value x ↔ x ∈ v.trail := by
  constructor
  · intro hp
    by_cases hno:∀y∈v.trail,y.natAbs≠x.natAbs
    · have:=h.open_ _ hno
      exfalso
      unfold Go.Proofs.Ytilhhmkdcoajnaa.Am.isV at hp
      rw[this]at hp
      split at hp<;>omega
    · have:∃y∈v.trail,y.natAbs=x.natAbs:=by
        simpa using hno
      obtain⟨y,hy,e⟩:=this
      rcases neg_abs e with e | e
      · rw[← e];exact hy
      · have h1:=h.isV hy
        rw[e,isV_neg _ hx]at h1
        omega
  · intro hm
    rw[h.isV hm];decide
theorem Inv1.neg{n:Nat}{v:Sv}(h:Inv1 n v){x:Int}(hx:x≠0):Go.Proofs.Ytilhhmkdcoajnaa.Am.isV v.value x<0↔-x∈v.trail:=by
  rw[← h.pos (x:=-x) (by omega),isV_neg _ hx]
  omega
theorem Inv1.zero{n:Nat}{v:Sv}(h:Inv1 n v){x:Int}(hx:x≠0)(h1:x ∉ v.trail)(h2:-x ∉ v.trail):v.value.getD x.natAbs 0=0:=by
  apply isV_zero
  have a:=h.pos hx
  have b:=h.neg hx
  have:¬ 0<Go.Proofs.Ytilhhmkdcoajnaa.Am.isV v.value x:=fun q=>h1 (a.1 q)
  have:¬ Go.Proofs.Ytilhhmkdcoajnaa.Am.isV v.value x<0:=fun q=>h2 (b.1 q)
  omega
theorem Inv1.one{n:Nat}{v:Sv}(h:Inv1 n v){i j:Nat}{x y:Int}(hi:v.trail[i]? = some x)(hj:v.trail[j]? = some y)(e:x.natAbs=y.natAbs):i=j:=by
  have hl:i<(v.trail.map Int.natAbs).length:=by rw[List.length_map];exact lt_of_get hi
  refine(List.getElem?_inj hl h.nodup).1 ?_
  rw[List.getElem?_map,List.getElem?_map,hi,hj]
  show some _=some _
  rw[e]
theorem Inv1.two{n:Nat}{v:Sv}(h:Inv1 n v){x:Int}(h1:x∈v.trail)(h2:-x∈v.trail):False:=by
  obtain⟨i,hi,e1⟩:=List.getElem_of_mem h1
  obtain⟨j,hj,e2⟩:=List.getElem_of_mem h2
  have k1:v.trail[i]? = some x:=by rw[List.getElem?_eq_getElem hi,e1]
  have k2:v.trail[j]? = some (-x):=by rw[List.getElem?_eq_getElem hj,e2]
  have:=h.one k1 k2 (by omega)
  subst this
  rw[k1]at k2
  injection k2 with k2
  have:=(h.fit.lits x h1).1
  omega
theorem mem_tk{l:List Int}{k:Nat}{x:Int}:x∈l.take k↔∃i,i<k∧l[i]? = some x:=by
  rw[List.mem_take_iff_getElem]
  constructor
  · rintro⟨j,hm,e⟩
    have hj:j<l.length:=by omega
    exact⟨j,by omega,by rw[List.getElem?_eq_getElem hj,e]⟩
  · rintro⟨i,hi,e⟩
    have hl:=lt_of_get e
    refine⟨i,by omega,?_⟩
    rw[List.getElem?_eq_getElem hl]at e
    injection e
theorem mem_at{l:List Int}{x:Int}:x∈l↔∃i:Nat,l[i]? = some x:=List.mem_iff_getElem?
def lvl(L:List Int)(i:Nat):Nat:=L.countP fun x=>decide (x≤(i:Int))
theorem lvl_app(A B:List Int)(i:Nat):lvl (A++B) i=lvl A i+lvl B i:=List.countP_append
theorem lvl_le(L:List Int)(i:Nat):lvl L i≤L.length:=List.countP_le_length
theorem lvl_full{L:List Int}{i:Nat}(h:∀x∈L,x≤(i:Int)):lvl L i=L.length:=by
  unfold lvl
  rw[List.countP_eq_length]
  intro a ha
  exact decide_eq_true (h a ha)
theorem lvl_none{L:List Int}{i:Nat}(h:∀x∈L,(i:Int)<x):lvl L i=0:=by
  unfold lvl
  rw[List.countP_eq_zero]
  intro a ha
  have:=h a ha
  simp
  omega
theorem lvl_mono{L:List Int}{i j:Nat}(h:i≤j):lvl L i≤lvl L j:=by
  unfold lvl
  refine List.countP_mono_left fun x _ hx=>?_
  have hx:=of_decide_eq_true hx
  exact decide_eq_true (by omega)
theorem sorted_take{L:List Int}(hs:L.Pairwise (·<·)){k:Nat}{t:Int}(hk:L[k]? = some t):(∀x∈L.take k,x<t)∧∀x∈L.drop k,t≤x:=by
  have hl:=lt_of_get hk
  have e:L.drop k=t::L.drop (k+1):=by
    rw[List.drop_eq_getElem_cons hl]
    congr 1
    rw[List.getElem?_eq_getElem hl]at hk
    injection hk
  have hs':(L.take k++L.drop k).Pairwise (·<·):=by rw[List.take_append_drop];exact hs
  rw[List.pairwise_append]at hs'
  obtain⟨h1,h2,h3⟩:=hs'
  refine⟨fun x hx=>h3 x hx t (by rw[e];exact List.mem_cons_self ..),fun x hx=>?_⟩
  rw[e]at hx h2
  rcases List.mem_cons.1 hx with q | q
  · omega
  · have:=(List.pairwise_cons.1 h2).1 x q
    omega
theorem lvl_lt{L:List Int}(hs:L.Pairwise (·<·)){k i:Nat}{t:Int}(hk:L[k]? = some t)(hi:(i:Int)<t):lvl L i=lvl (L.take k) i∧lvl L i≤k:=by
  have e:lvl L i=lvl (L.take k) i:=by
    have h:=lvl_app (L.take k) (L.drop k) i
    rw[List.take_append_drop]at h
    rw[h,lvl_none (L:=L.drop k) fun x hx=>by have:=(sorted_take hs hk).2 x hx;omega]
    omega
  refine⟨e,?_⟩
  rw[e]
  have:=lvl_le (L.take k) i
  rw[List.length_take]at this
  omega
theorem lvl_ge{L:List Int}(hs:L.Pairwise (·<·)){k i:Nat}{t:Int}(hk:L[k]? = some t)(hi:t≤(i:Int)):k+1≤lvl L i:=by
  have hl:=lt_of_get hk
  have h:=lvl_app (L.take (k+1)) (L.drop (k+1)) i
  rw[List.take_append_drop]at h
  have hf:lvl (L.take (k+1)) i=(L.take (k+1)).length:=lvl_full fun x hx=>by
    obtain⟨j,hj,e⟩:=mem_tk.1 hx
    rcases Nat.lt_or_ge j k with q | q
    · have:=(sorted_take hs hk).1 x (mem_tk.2 ⟨j,q,e⟩)
      omega
    · have:j=k:=by omega
      subst this
      rw[hk]at e
      injection e with e
      omega
  rw[hf,List.length_take]at h
  omega
structure CT(n:Nat)(v:Sv):Prop where
  inv:Inv1 n v
  sorted:v.limits.Pairwise (·<·)
  below:∀x∈v.limits,x<(v.trail.length:Int)
  lev:∀ (i:Nat) (x:Int),v.trail[i]? = some x→v.level.getD x.natAbs 0=(lvl v.limits i:Int)
  why:∀ (i:Nat) (x:Int),v.trail[i]? = some x→(v.why.getD x.natAbs none=none∧(i:Int)∈v.limits)∨∃c ls b,v.why.getD x.natAbs none=some c∧v.cl c=some (ls,b)∧ls.getD 0 0=x∧∀y∈ls,y≠x→-y∈v.trail.take i
  cls:∀c ls b,v.cl c=some (ls,b)→ClsOk n ls∧ls≠[]∧(ls.map Int.natAbs).Nodup∧b.2=false
theorem CT.of{n:Nat}{v v':Sv}(h:CT n v)(hi:Inv1 n v')(h1:v'.trail=v.trail)(h2:v'.limits=v.limits)(h3:v'.level=v.level)(h4:v'.why=v.why)(h5:v'.cl=v.cl):CT n v':=
  ⟨hi,by rw[h2];exact h.sorted,by rw[h1,h2];exact h.below,by rw[h1,h2,h3];exact h.lev,by rw[h1,h2,h4,h5];exact h.why,by rw[h5];exact h.cls⟩
theorem CT.lim{n:Nat}{v:Sv}(h:CT n v):∀x∈v.limits,0≤x:=fun x hx=>(h.inv.fit.lims x hx).1
theorem get_snoc{l:List Int}{x y:Int}{i:Nat}(h:(l++[x])[i]? = some y):(i<l.length∧l[i]? = some y)∨(i=l.length∧y=x):=by
  rcases Nat.lt_or_ge i l.length with q | q
  · rw[List.getElem?_append_left q]at h;exact .inl ⟨q,h⟩
  · rw[List.getElem?_append_right q]at h
    have:i - l.length<1:=lt_of_get h
    have e:i - l.length=0:=by omega
    rw[e]at h
    exact .inr ⟨by omega,by simpa using h.symm⟩
theorem getD_set_ne{α:Type}{l:List α}{k j:Nat}{a d:α}(h:j≠k):(l.set k a).getD j d=l.getD j d:=by
  rw[List.getD_eq_getElem?_getD,List.getD_eq_getElem?_getD,List.getElem?_set,if_neg fun e=>h e.symm]
theorem getD_set_eq{α:Type}{l:List α}{k:Nat}{a d:α}(h:k<l.length):(l.set k a).getD k d=a:=by
  rw[getD_set h,if_pos rfl]
theorem Inv1.abs_ne{n:Nat}{v:Sv}(h:Inv1 n v){x y:Int}(hx:v.value.getD x.natAbs 0=0)(hy:y∈v.trail):y.natAbs≠x.natAbs:=fun e=>by
  have:=h.holds y hy
  rw[e,hx]at this
  rcases sgn_val y with q | q<;>omega
theorem CT.assign{n:Nat}{v:Sv}(h:CT n v){x:Int}(hx:VL n x)(ho:v.value.getD x.natAbs 0=0){c:Nat}{ls:List Int}{b:Bool×Bool}(hc:v.cl c=some (ls,b))(h0:ls.getD 0 0=x)(hr:∀y∈ls,y≠x→-y∈v.trail):CT n (assignV v x (some c)):=by
  have hz:=h.inv.fit.siz
  have hi:=h.inv.assign hx ho (some c)
  have hne:∀ {i:Nat} {y:Int},v.trail[i]? = some y→y.natAbs≠x.natAbs:=fun hy=>h.inv.abs_ne ho (List.mem_of_getElem? hy)
  have hlx:x.natAbs<v.level.length:=by rw[hz.level];have:=hx.2;omega
  have hwx:x.natAbs<v.why.length:=by rw[hz.why];have:=hx.2;omega
  refine⟨hi,h.sorted,fun y hy=>?_,fun i y hy=>?_,fun i y hy=>?_,h.cls⟩
  · have:=h.below y hy
    show y<((v.trail++[x]).length:Int)
    rw[List.length_append];simp;omega
  · show(v.level.set _ _).getD _ 0=(lvl v.limits i:Int)
    rcases get_snoc hy with⟨h1,h2⟩ | ⟨h1,h2⟩
    · rw[getD_set_ne (hne h2)];exact h.lev i y h2
    · subst h2
      rw[getD_set_eq hlx,h1,lvl_full fun z hz=>by have:=h.below z hz;omega]
  · show((v.why.set _ _).getD _ none=none∧_)∨∃d ls b,(v.why.set _ _).getD _ none=some d∧v.cl d=some (ls,b)∧ls.getD 0 0=y∧∀z∈ls,z≠y→-z∈(v.trail++[x]).take i
    rcases get_snoc hy with⟨h1,h2⟩ | ⟨h1,h2⟩
    · rw[getD_set_ne (hne h2),List.take_append_of_le_length (by omega)]
      exact h.why i y h2
    · subst h2
      rw[getD_set_eq hwx,h1,List.take_append_of_le_length (by omega),List.take_length]
      exact .inr ⟨c,ls,b,rfl,hc,h0,hr⟩
theorem sorted_len{L:List Int}(hs:L.Pairwise (·<·)){m:Nat}(h0:∀x∈L,0≤x)(hm:∀x∈L,x<(m:Int)):L.length≤m:=by
  have hnd:(L.map fun x=>x.toNat+1).Nodup:=by
    rw[List.Nodup,List.pairwise_map]
    refine List.Pairwise.imp_of_mem ?_ hs
    intro a b ha hb hab
    have:=h0 a ha
    have:=h0 b hb
    omega
  have:=nodup_len hnd (n:=m) fun k hk=>by
    obtain⟨x,hx,rfl⟩:=List.mem_map.1 hk
    have:=h0 x hx
    have:=hm x hx
    omega
  simpa using this
theorem Inv1.room{n:Nat}{v:Sv}(h:Inv1 n v){x:Int}(hx:VL n x)(ho:v.value.getD x.natAbs 0=0):v.trail.length+1≤n:=by
  have:=(h.assign hx ho none).fit.siz.trail
  have e:(assignV v x none).trail=v.trail++[x]:=rfl
  rw[e,List.length_append]at this
  exact this
theorem CT.guess {n : Nat} {v : Sv} (h : CT n v) {x : Int} (hx : VL n x) (ho : v.value.getD x.natAbs 0 = 0) : CT n (assignV { v with limits := v.limits ++ [(v.trail.length : Int)] } x none) := by
  have hz:=h.inv.fit.siz
  have hroom:=h.inv.room hx ho
  have hlen:=sorted_len h.sorted h.lim h.below
  have hi0:Inv1 n { v with limits:=v.limits++[(v.trail.length:Int)] }:=by
    obtain⟨⟨hz,hv,hli,hlm⟩,g2,g3,g4,g5⟩:=h.inv
    refine⟨⟨⟨hz.small,hz.w,hz.value,hz.level,hz.why,hz.heat,hz.phase,hz.trail,?_⟩,hv,hli,fun y hy=>?_⟩,g2,g3,g4,g5⟩
    · show(v.limits++[_]).length≤n
      rw[List.length_append];simp;omega
    · rcases List.mem_append.1 hy with q | q
      · exact hlm y q
      · rw[List.mem_singleton.1 q]
        exact⟨by omega,by show(v.trail.length:Int)≤v.trail.length;omega⟩
  have hi:=hi0.assign hx ho none
  have hne:∀ {i:Nat} {y:Int},v.trail[i]? = some y→y.natAbs≠x.natAbs:=fun hy=>h.inv.abs_ne ho (List.mem_of_getElem? hy)
  have hlx:x.natAbs<v.level.length:=by rw[hz.level];have:=hx.2;omega
  have hwx:x.natAbs<v.why.length:=by rw[hz.why];have:=hx.2;omega
  refine⟨hi,?_,fun y hy=>?_,fun i y hy=>?_,fun i y hy=>?_,h.cls⟩
  · show(v.limits++[_]).Pairwise (·<·)
    rw[List.pairwise_append]
    exact⟨h.sorted,by simp,fun a ha b hb=>by rw[List.mem_singleton.1 hb];exact h.below a ha⟩
  · show y<((v.trail++[x]).length:Int)
    rw[List.length_append]
    have hy:y∈v.limits++[(v.trail.length:Int)]:=hy
    rcases List.mem_append.1 hy with q | q
    · have:=h.below y q;simp;omega
    · rw[List.mem_singleton.1 q];simp;omega
  · show(v.level.set _ ((v.limits++[_]).length:Int)).getD _ 0=(lvl (v.limits++[(v.trail.length:Int)]) i:Int)
    have hy:(v.trail++[x])[i]? = some y:=hy
    rcases get_snoc hy with⟨h1,h2⟩ | ⟨h1,h2⟩
    · rw[getD_set_ne (hne h2),lvl_app,lvl_none (L:=[(v.trail.length:Int)]) fun z hz=>by rw[List.mem_singleton.1 hz];omega]
      exact h.lev i y h2
    · subst h2
      rw[getD_set_eq hlx,h1,lvl_full fun z hz=>by
        rcases List.mem_append.1 hz with q | q
        · have:=h.below z q;omega
        · rw[List.mem_singleton.1 q];omega]
  · show((v.why.set _ _).getD _ none=none∧(i:Int)∈v.limits++[_])∨∃d ls b,(v.why.set _ _).getD _ none=some d∧v.cl d=some (ls,b)∧ls.getD 0 0=y∧∀z∈ls,z≠y→-z∈(v.trail++[x]).take i
    have hy:(v.trail++[x])[i]? = some y:=hy
    rcases get_snoc hy with⟨h1,h2⟩ | ⟨h1,h2⟩
    · rw [getD_set_ne (hne h2), List.take_append_of_le_length (by omega)]
      rcases h.why i y h2 with⟨q1,q2⟩ | q
      · exact .inl ⟨q1,List.mem_append_left _ q2⟩
      · exact .inr q
    · subst h2
      rw[getD_set_eq hwx,h1]
      exact .inl ⟨rfl,List.mem_append_right _ (List.mem_singleton.2 rfl)⟩
theorem CT.perm {n : Nat} {v : Sv} (h : CT n v) {c : Nat} {ls ls' : List Int} {b : Bool × Bool} (hc : v.cl c = some (ls, b)) (hp : ls'.Perm ls) (h0 : ls.getD 0 0 ∈ v.trail → ls'.getD 0 0 = ls.getD 0 0) (hi : Inv1 n { v with cl := clPut v.cl c (ls', b) }) : CT n { v with cl := clPut v.cl c (ls', b) } := by
  refine⟨hi,h.sorted,h.below,h.lev,fun i x hx=>?_,fun d ms b' hd=>?_⟩
  · rcases h.why i x hx with q | ⟨d, ms, b', q1, q2, q3, q4⟩
    · exact .inl q
    · by_cases e : d = c
      · subst e
        rw[hc]at q2
        injection q2 with q2
        injection q2 with q2 q2'
        subst q2
        exact .inr ⟨d,ls',b,q1,clPut_same _ _ _,by rw[h0 (by rw[q3];exact List.mem_of_getElem? hx)];exact q3,fun y hy=>q4 y (hp.mem_iff.1 hy)⟩
      · exact .inr ⟨d,ms,b',q1,by show clPut _ _ _ d=_;unfold clPut;rw[if_neg e];exact q2,q3,q4⟩
  · have hd:clPut v.cl c (ls',b) d=some (ms,b'):=hd
    unfold clPut at hd
    by_cases e:d=c
    · rw[if_pos e]at hd
      injection hd with hd
      injection hd with hd hd'
      subst hd;subst hd'
      obtain⟨k1,k2,k3,k4⟩:=h.cls c ls b hc
      exact⟨⟨fun y hy=>k1.1 y (hp.mem_iff.1 hy),by rw[hp.length_eq];exact k1.2⟩,fun q=>k2 (by have:=hp.length_eq;rw[q]at this;exact List.length_eq_zero_iff.1 this.symm),((hp.map _).nodup_iff).2 k3,k4⟩
    · rw[if_neg e]at hd
      exact h.cls d ms b' hd
theorem CT.put{n:Nat}{v:Sv}(h:CT n v){c:Nat}{ls:List Int}{b:Bool×Bool}(hc:v.cl c=none)(hk:ClsOk n ls)(hne:ls≠[])(hnd:(ls.map Int.natAbs).Nodup)(hb:b.2=false)(hi:Inv1 n { v with cl:=clPut v.cl c (ls,b) }):CT n { v with cl:=clPut v.cl c (ls,b) }:=by
  refine⟨hi,h.sorted,h.below,h.lev,fun i x hx=>?_,fun d ms b' hd=>?_⟩
  · rcases h.why i x hx with q | ⟨d, ms, b', q1, q2, q3, q4⟩
    · exact .inl q
    · have e:d≠c:=fun e=>by rw[e,hc]at q2;cases q2
      exact .inr ⟨d,ms,b',q1,by show clPut _ _ _ d=_;unfold clPut;rw[if_neg e];exact q2,q3,q4⟩
  · have hd:clPut v.cl c (ls,b) d=some (ms,b'):=hd
    unfold clPut at hd
    by_cases e:d=c
    · rw[if_pos e]at hd
      injection hd with hd
      injection hd with hd hd'
      subst hd;subst hd'
      exact⟨hk,hne,hnd,hb⟩
    · rw[if_neg e]at hd
      exact h.cls d ms b' hd
theorem undo_val:∀ (D:List Int)(v:Sv),(∀x∈D,x.natAbs<v.value.length)→∀j,(D.foldl undoV v).value.getD j 0=if j∈D.map Int.natAbs then 0 else v.value.getD j 0
  | [],v,_,j=>by simp
  | x::D,v,h,j=>by
    have hx:=h x (List.mem_cons_self ..)
    rw[List.foldl_cons,undo_val D (undoV v x) (fun y hy=>by show y.natAbs<(v.value.set _ _).length;rw[List.length_set];exact h y (List.mem_cons_of_mem _ hy)) j]
    show(if j∈D.map Int.natAbs then (0:Int)else (v.value.set x.natAbs 0).getD j 0)=_
    rw[List.map_cons]
    by_cases h1:j∈D.map Int.natAbs
    · rw[if_pos h1,if_pos (List.mem_cons_of_mem _ h1)]
    · rw[if_neg h1]
      by_cases e:j=x.natAbs
      · rw[e,getD_set_eq hx,if_pos (List.mem_cons_self ..)]
      · rw[getD_set_ne e,if_neg (by rw[List.mem_cons];rintro(q | q);exact e q;exact h1 q)]
theorem undo_why:∀ (D:List Int)(v:Sv),(∀x∈D,x.natAbs<v.why.length)→∀j,(D.foldl undoV v).why.getD j none=if j∈D.map Int.natAbs then none else v.why.getD j none
  | [],v,_,j=>by simp
  | x::D,v,h,j=>by
    have hx:=h x (List.mem_cons_self ..)
    rw[List.foldl_cons,undo_why D (undoV v x) (fun y hy=>by show y.natAbs<(v.why.set _ _).length;rw[List.length_set];exact h y (List.mem_cons_of_mem _ hy)) j]
    show(if j∈D.map Int.natAbs then none else (v.why.set x.natAbs none).getD j none)=_
    rw[List.map_cons]
    by_cases h1:j∈D.map Int.natAbs
    · rw[if_pos h1,if_pos (List.mem_cons_of_mem _ h1)]
    · rw[if_neg h1]
      by_cases e:j=x.natAbs
      · rw[e,getD_set_eq hx,if_pos (List.mem_cons_self ..)]
      · rw[getD_set_ne e,if_neg (by rw[List.mem_cons];rintro(q | q);exact e q;exact h1 q)]
def PhaseOk(n:Nat)(v:Sv):Prop:=∀k,1≤k→k≤n→v.phase.getD k 0=1∨v.phase.getD k 0=-1
theorem undo_phase{n:Nat}:∀ (D:List Int)(v:Sv),PhaseOk n v→(D.map Int.natAbs).Nodup→(∀x∈D,v.value.getD x.natAbs 0=1∨v.value.getD x.natAbs 0=-1)→(∀x∈D,x.natAbs<v.phase.length)→PhaseOk n (D.foldl undoV v)
  | [],v,h,_,_,_=>h
  | x::D,v,h,hd,hv,hl=>by
    rw[List.map_cons,List.nodup_cons]at hd
    rw[List.foldl_cons]
    have hx:=hl x (List.mem_cons_self ..)
    refine undo_phase D (undoV v x) ?_ hd.2 (fun y hy=>?_) (fun y hy=>by show y.natAbs<(v.phase.set _ _).length;rw[List.length_set];exact hl y (List.mem_cons_of_mem _ hy))
    · intro k h1 h2
      show(v.phase.set x.natAbs _).getD k 0=1∨(v.phase.set x.natAbs _).getD k 0=-1
      by_cases e:k=x.natAbs
      · rw[e,getD_set_eq hx];exact hv x (List.mem_cons_self ..)
      · rw[getD_set_ne e];exact h k h1 h2
    · show(v.value.set x.natAbs 0).getD y.natAbs 0=1∨(v.value.set x.natAbs 0).getD y.natAbs 0=-1
      rw[getD_set_ne fun e=>hd.1 (by rw[← e];exact List.mem_map_of_mem hy)]
      exact hv y (List.mem_cons_of_mem _ hy)
theorem CT.back {n : Nat} {v : Sv} (h : CT n v) {k : Nat} {t : Int} (hk : v.limits[k]? = some t) : CT n (backV v k) ∧ (backV v k).trail = v.trail.take t.toNat ∧ (backV v k).limits = v.limits.take k ∧ (backV v k).head = t ∧ (PhaseOk n v → PhaseOk n (backV v k)) := by
  have hkl:=lt_of_get hk
  have htm:t∈v.limits:=List.mem_of_getElem? hk
  have ht0:=h.lim t htm
  have htl:=h.below t htm
  have hgd:v.limits.getD k 0=t:=getD_of hk
  have e:backV v k=backTo v t.toNat k:=by
    unfold backV
    rw[if_neg (by omega),hgd]
  rw[e]
  have hz:=h.inv.fit.siz
  have hsplit:v.trail=v.trail.take t.toNat++v.trail.drop t.toNat:=(List.take_append_drop _ _).symm
  have hnd:=h.inv.nodup
  rw[hsplit,List.map_append,List.nodup_append]at hnd
  obtain⟨nd1,nd2,nd3⟩:=hnd
  have hDm:∀x∈v.trail.drop t.toNat,x∈v.trail:=fun x hx=>List.mem_of_mem_drop hx
  have hAm:∀x∈v.trail.take t.toNat,x∈v.trail:=fun x hx=>List.mem_of_mem_take hx
  have hDl:∀x∈v.trail.drop t.toNat,x.natAbs<n+1:=fun x hx=>by have:=(h.inv.fit.lits x (hDm x hx)).2;omega
  obtain⟨ph,va,wh,ef,z1,z2,z3⟩:=foldl_undo2 (v.trail.drop t.toNat) v
  have hval:=undo_val (v.trail.drop t.toNat) v (fun x hx=>by rw[hz.value];exact hDl x hx)
  have hwhy:=undo_why (v.trail.drop t.toNat) v (fun x hx=>by rw[hz.why];exact hDl x hx)
  have hphase:=fun hp:PhaseOk n v=>undo_phase (v.trail.drop t.toNat) v hp nd2 (fun x hx=>by
    have:=h.inv.holds x (hDm x hx)
    rw[this]
    rcases sgn_val x with q | q<;>rw[q]<;>simp) (fun x hx=>by rw[hz.phase];exact hDl x hx)
  have notD:∀x∈v.trail.take t.toNat,x.natAbs ∉ (v.trail.drop t.toNat).map Int.natAbs:=fun x hx q=>nd3 _ (List.mem_map_of_mem hx) _ q rfl
  unfold backTo
  rw[ef]at hval hwhy hphase ⊢
  have hlt:(v.trail.take t.toNat).length=t.toNat:=by rw[List.length_take];omega
  have hlim:∀x∈v.limits.take k,x<t:=(sorted_take h.sorted hk).1
  have hinv:Inv1 n { v with phase:=ph,value:=va,why:=wh,trail:=v.trail.take t.toNat,limits:=v.limits.take k,head:=(t.toNat:Int) }:=by
    refine⟨⟨⟨hz.small,hz.w,z2.trans hz.value,hz.level,z3.trans hz.why,hz.heat,z1.trans hz.phase,?_,?_⟩,?_,?_,?_⟩,nd1,?_,?_,h.inv.wc⟩
    · show(v.trail.take _).length≤n
      have:=hz.trail
      omega
    · show(v.limits.take _).length≤n
      have:=hz.limits
      rw[List.length_take];omega
    · intro y hy
      obtain⟨j,hj,ej⟩:=List.getElem_of_mem hy
      have hj':va.getD j 0=y:=by rw[List.getD_eq_getElem?_getD,List.getElem?_eq_getElem hj,ej];rfl
      have:=hval j
      dsimp only at this
      rw[hj']at this
      rw[this]
      split
      · exact .inr (.inl rfl)
      · exact h.inv.fit.val.get j
    · intro x hx;exact h.inv.fit.lits x (hAm x hx)
    · intro x hx
      have:=hlim x hx
      have h0:=h.lim x (List.mem_of_mem_take hx)
      refine⟨h0,?_⟩
      show x≤((v.trail.take t.toNat).length:Int)
      rw[hlt];omega
    · intro x hx
      show va.getD x.natAbs 0=sgn x
      have:=hval x.natAbs
      dsimp only at this
      rw[this,if_neg (notD x hx)]
      exact h.inv.holds x (hAm x hx)
    · intro j hj
      show va.getD j 0=0
      have:=hval j
      dsimp only at this
      rw[this]
      by_cases q:j∈(v.trail.drop t.toNat).map Int.natAbs
      · rw[if_pos q]
      · rw [if_neg q]
        refine h.inv.open_ j fun x hx e=>?_
        rw[hsplit]at hx
        rcases List.mem_append.1 hx with hx | hx
        · exact hj x hx e
        · exact q (by rw[← e];exact List.mem_map_of_mem hx)
  refine⟨⟨hinv,?_,?_,?_,?_,h.cls⟩,rfl,rfl,?_,hphase⟩
  · exact h.sorted.sublist (List.take_sublist _ _)
  · intro x hx
    show x<((v.trail.take t.toNat).length:Int)
    rw[hlt]
    have:=hlim x hx
    omega
  · intro i x hx
    have hx:(v.trail.take t.toNat)[i]? = some x:=hx
    have hil:=lt_of_get hx
    rw[List.getElem?_take_of_lt (by omega)]at hx
    show v.level.getD x.natAbs 0=(lvl (v.limits.take k) i:Int)
    rw[h.lev i x hx,(lvl_lt h.sorted hk (by omega)).1]
  · intro i x hx
    have hx':(v.trail.take t.toNat)[i]? = some x:=hx
    have hil:=lt_of_get hx'
    have hmem:=List.mem_of_getElem? hx'
    have hx:v.trail[i]? = some x:=by rw[List.getElem?_take_of_lt (by omega)]at hx';exact hx'
    have hw:wh.getD x.natAbs none=v.why.getD x.natAbs none:=by
      have:=hwhy x.natAbs
      dsimp only at this
      rw[this,if_neg (notD x hmem)]
    show(wh.getD x.natAbs none=none∧(i:Int)∈v.limits.take k)∨∃c ls b,wh.getD x.natAbs none=some c∧v.cl c=some (ls,b)∧ls.getD 0 0=x∧∀y∈ls,y≠x→-y∈(v.trail.take t.toNat).take i
    rw[hw,List.take_take,Nat.min_eq_left (by omega)]
    rcases h.why i x hx with⟨q1,q2⟩ | q
    · refine .inl ⟨q1,?_⟩
      obtain⟨m,hm⟩:=mem_at.1 q2
      refine mem_tk.2 ⟨m,?_,hm⟩
      rcases Nat.lt_or_ge m k with hmk | hmk
      · exact hmk
      · exfalso
        have:(i:Int)∈v.limits.drop k:=by
          rw[mem_at]
          exact⟨m - k,by rw[List.getElem?_drop,show k+(m - k)=m by omega];exact hm⟩
        have:=(sorted_take h.sorted hk).2 _ this
        omega
    · exact .inr q
  · show(t.toNat:Int)=t
    omega
theorem back_none{v:Sv}{k:Nat}(h:v.limits.length≤k):backV v k=v:=by unfold backV;rw[if_pos h]
end
end Go.Proofs.Ytilhhmkdcoajnaa.Am
