/- The solver's propagate: the walk through one list; conditions: its state fits. -/
import Derived.Test.YtilhhmkdcoajnaaAmM35
set_option linter.unusedVariables false
set_option linter.unusedSimpArgs false
set_option maxRecDepth 16000
namespace Go.Proofs.Ytilhhmkdcoajnaa.Am
open Go Go.Proofs
noncomputable section
theorem row_at{s:ASt}{t:TypeId}{z:Nat}{x:AV}:SliceAt (s.next+1) (newObj s (mkRow t z [x])) (.slice (some (s.next,0)) 1 (some 1)) [x]:=by
  obtain⟨r,h1,h2,_⟩:=holds_mkRow t z [x]
  refine⟨_,_,rfl,fun k u hk=>⟨s.next,0,rfl,by omega,?_⟩⟩
  have hk0:=lt_of_get hk
  rw[Nat.zero_add]
  exact load1_row (show(newObj s (mkRow t z [x])).heap.get s.next=some (.row r) by rw[heap_new,if_pos rfl,h1]) (by rw[h2.1];exact hk0) (h2.2 k u hk)
theorem touch_fs {v : Sv} {c : Nat} {l : Int} {ls : List Int} {b : Bool × Bool} (h : (touchR v c l ls b).2.1 = true) : (touchR v c l ls b).1 = true := by
  unfold touchR at *
  split
  · rename_i hb;rw[if_pos hb]at h;cases h
  · rename_i hb
    rw[if_neg hb]at h
    dsimp only at *
    generalize (if ls.getD 0 0=l then swapL ls 0 1 else ls)=ls1 at h
    split
    · rfl
    · rename_i hb
      rw[if_neg hb]at h
      split
      · rename_i i hm;rw[hm]at h;cases h
      · rename_i hm
        rw[hm]at h
        dsimp only at h
        split
        · rfl
        · rename_i hn;rw[if_neg hn]at h
theorem extract_bb0(a f:Bool):Rp (.tuple [.bool a,.bool f]) 0=some (.bool a):=rfl
theorem extract_bb1(a f:Bool):Rp (.tuple [.bool a,.bool f]) 1=some (.bool f):=rfl
theorem loadHK{ow ow':Ow}{s s':ASt}{p:Nat}{x:Sf}{v:Sv}(h:SAt ow s p x v)(k:Step (fun _=>False) ow s ow' s'){j:Nat}(hj:j<v.watches.length){xw:AV}(hx:x.w=xw):loadV Try.prog s' 89 (addrOf xw j)=loadV Try.prog s 89 (addrOf xw j):=by
  have:=(HK.ofB (x':=x) (v':=v) h (k.mono fun _ q=>q.elim) rfl).2 j hj rfl
  rw[hx]at this
  exact this
theorem cells_ptr:∀ (L:List Nat),allCells (clss L)=true
  | []=>rfl
  | c::L=>cells_ptr L
theorem touch_at{E:Env}(hE:Good E){ow:Ow}{s:ASt}{p:Nat}{x:Sf}{v:Sv}{w:Nat}{M:List Nat}(h:SAt ow s p x (setW v (v.watches.set w M))){n:Nat}(hi:Inv1 n v)(hM:WL n v M)(hw:w<v.watches.length)(hs:Tot v.watches+M.length≤100000000){c:Nat}{ls:List Int}{b:Bool×Bool}(hc:v.cl c=some (ls,b))(hl:ClsOk n ls)(h2:2≤ls.length){l:Int}(hl0:l≠0)(hwl:w=place l)(hf:isV v.value l<0){u:AV}(hu:loadV Try.prog s 89 (addrOf x.w w)=some u):
    WF E 92 [ptrA p,ptrA c,iv l] (fun r s'=>∃ow' x',r=.tuple [.bool (touchR v c l ls b).1,.bool (touchR v c l ls b).2.1]∧SAt ow' s' p x' (setW (touchR v c l ls b).2.2 ((touchR v c l ls b).2.2.watches.set w M))∧Step (mine p) ow s ow' s'∧x'.w=x.w∧loadV Try.prog s' 89 (addrOf x.w w)=some u) s:=by
  subst hwl
  have hi':=hi.setW (k:=place l) hM
  have hsh:Short (setW v (v.watches.set (place l) M)).watches:=by
    refine Tot.short (Nat.le_trans ?_ hs)
    have:=Tot.set M (getD_get (d:=([]:List Nat)) hw)
    show Tot (v.watches.set _ _)≤_
    omega
  refine(touch_ok hE h hi'.fit hsh (c:=c) (ls:=ls) (b:=b) hc hl h2 l).mono ?_
  rintro _ s' ⟨a,f,v',ow',x',h1,rfl,h3,h4,h5,h6⟩
  obtain⟨t1,t2⟩:=touch_setw (n:=n) (c:=c) (b:=b) hf hl0 hl h2 M
  rw[t1]at h1
  injection h1 with h1 h7
  injection h7 with h7 h8
  subst h1;subst h7;subst h8
  refine⟨ow',x',rfl,h3,h4,h5,?_⟩
  rw[h6 (place l) (by show place l<(v.watches.set _ _).length;rw[List.length_set];exact hw) ?_]
  · exact hu
  · show((touchR v c l ls b).2.2.watches.set _ _)[_]? = (v.watches.set _ _)[_]?
    rw[List.getElem?_set,List.getElem?_set,if_pos rfl,if_pos rfl,if_pos hw,if_pos]
    have hg:=getD_get (d:=([]:List Nat)) hw
    rw[← t2]at hg
    exact lt_of_get hg
theorem prop_in {E : Env} (hE : Good E) {p n w : Nat} {l : Int} (hl0 : l ≠ 0) (hwl : w = place l) {L : List Nat} {u xw : AV} {B : Nat} (hB : B ≤ 50000000) (hLB : L.length ≤ B) (r1 x10 x17 : AV) {Q : ARes → Prop} {ow0 : Ow} {s0 : ASt} :
    ∀ (rest:List Nat) (k:Nat) (K:List Nat) (s:ASt) (ow:Ow) (x:Sf) (v:Sv) (x6 x7 x8 x9 x14 x15 x16:AV),L.drop k=rest→K.length≤k→k≤L.length→Step (mine p) ow0 s0 ow s→SAt ow s p x (setW v (v.watches.set w (K++L.drop K.length)))→x.w=xw→loadV Try.prog s 89 (addrOf xw w)=some u→w<v.watches.length →
      Inv1 n v→WL n v K→WL n v L→isV v.value l<0→Tot v.watches+K.length+rest.length≤B →
      (∀s' ow' x' M y6 y7 y8 y9 y13 y14 y15 y16,SAt ow' s' p x' (setW (propIn l rest K v).2.2 ((propIn l rest K v).2.2.watches.set w M))→x'.w=xw→Buf ow' (p,2,w) s' (keptV u (propIn l rest K v).1.length) (clss (propIn l rest K v).1)→Step (mine p) ow0 s0 ow' s' →
        Q ⟨.exit 2,[ptrA p,r1,iv l,u,keptV u (propIn l rest K v).1.length,whyA (propIn l rest K v).2.1,y6,y7,y8,y9,x10,u,iv (L.length:Int),y13,y14,y15,y16,x17],[],s'⟩) →
      WC E none (.loop c64l16) Q [ptrA p,r1,iv l,u,keptV u K.length,.ptr none,x6,x7,x8,x9,x10,u,iv (L.length:Int),iv (k:Int),x14,x15,x16,x17] [] s:=by
  intro rest
  induction rest with
  | nil =>
    intro k K s ow x v x6 x7 x8 x9 x14 x15 x16 hd hKk hk hst h hxw hu hw hi hK hr hf ht hq
    have hkl:=drop_end hd hk
    subst hkl
    refine WC.loop' ?_
    simp only[c64l16,c64o8,Int.lt_irrefl,decide_false,Qa,Qb,Qc,Qd,Qe,Qf,Qg,Qh,Qi,Qj,Qk,Ql,Qm,Qn,true_and,and_true,Qo,Qp,Qq,Qr,Qs,Qt,Qu,Qv,Qw,Qx,Qy,Qz,Ra,Rb,Rc,Rd,Re,Rf,Rg,Rh,Ri,Rj,Rk,Rl,Rm,Ya,Yb,Yc,Rn,Ro,Rp,Yd,Ye,Rq,Rs,Rt,Ru,Rv,Rw,Rx]
    obtain⟨u',w1,w2,w3⟩:=h.watch_buf (k:=w) (L:=K++L.drop K.length) (by show(v.watches.set _ _)[_]? = _;rw[List.getElem?_set,if_pos rfl,if_pos hw])
    rw[hxw]at w2
    rw[hu]at w2
    injection w2 with w2
    subst w2
    have hb:=w3.kept (m:=K.length) (by rw[List.length_map];exact(List.prefix_append ..).length_le)
    rw[← List.map_take,List.take_append_of_le_length (Nat.le_refl _),List.take_length]at hb
    exact hq s ow x _ _ _ _ _ _ _ _ _ h hxw hb hst
  | cons c rest ih =>
    intro k K s ow x v x6 x7 x8 x9 x14 x15 x16 hd hKk hk hst h hxw hu hw hi hK hr hf ht hq
    obtain⟨hlt,hcL,hd'⟩:=drop_facts hd
    obtain⟨ls,b,hc,hcl,h2⟩:=hr c (List.mem_of_getElem? hcL)
    have hkk:decide ((k:Int)<(L.length:Int))=true:=decide_eq_true (by omega)
    have e3:=bin_add Try.prog 3 (k:Int) 1 ⟨by omega,by omega⟩
    have hcast:((k:Int)+1)=((k+1:Nat):Int):=by omega
    have hML:(K++L.drop K.length).length=L.length:=by rw[List.length_append,List.length_drop];omega
    obtain⟨u',w1,w2,w3⟩:=h.watch_buf (k:=w) (L:=K++L.drop K.length) (by show(v.watches.set _ _)[_]? = _;rw[List.getElem?_set,if_pos rfl,if_pos hw])
    rw[hxw]at w2
    rw[hu]at w2
    injection w2 with w2
    subst w2
    have hMk:(K++L.drop K.length)[k]? = some c:=by
      rw[List.getElem?_append_right hKk,List.getElem?_drop,show K.length+(k - K.length)=k by omega]
      exact hcL
    have hMk':(clss (K++L.drop K.length))[k]? = some (ptrA c):=by rw[List.getElem?_map,hMk];rfl
    have i1:=w3.addr Try.underlying89 sz92 (k:=k) (by rw[List.length_map,hML];exact hlt)
    have i2:=w3.get (t:=92) ag92 hMk'
    have hMw:WL n v (K++L.drop K.length):=fun d hd=>by
      rcases List.mem_append.1 hd with hd | hd
      · exact hK d hd
      · exact hr d (List.mem_of_mem_drop hd)
    have hrl:(c::rest).length=rest.length+1:=rfl
    have hti:=touch_inv hi (Tot.shortN _) hc hcl h2 (l:=l) (a:=(touchR v c l ls b).1) (f:=(touchR v c l ls b).2.1) (v':=(touchR v c l ls b).2.2) rfl
    obtain⟨t1,t2,t3,ls',t4,t5,t6⟩:=hti
    have hcc:∃ls1 b1,(touchR v c l ls b).2.2.cl c=some (ls1,b1)∧ClsOk n ls1∧2≤ls1.length:=⟨ls',b,t4,t5,by omega⟩
    have htot:=touch_tot v c l ls b
    have hfl:isV (touchR v c l ls b).2.2.value l<0:=by rw[touch_false hi (by omega) hcl h2];exact hf
    refine WC.loop' ?_
    generalize hW:WC E none (CCode.loop c64l16) Q=W
    simp only[c64l16,c64o8,c64o9,hkk,i1,i2,c64o10,Qa,Qb,Qc,Qd,Qe,Qf,Qg,Qh,Qi,Qj,Qk,Ql,Qm,Qn,true_and,and_true,Qo,Qp,Qq,Qr,Qs,Qt,Qu,Qv,Qw,Qx,Qy,Qz,Ra,Rb,Rc,Rd,Re,Rf,Rg,Rh,Ri,Rj,Rk,Rl,Rm,Ya,Yb,Yc,Rn,Ro,Rp,Yd,Ye,Rq,Rs,Rt,Ru,Rv,Rw,Rx]
    refine(touch_at hE h hi hMw hw (by rw[hML];omega) hc hcl h2 hl0 hwl hf (by rw[hxw];exact hu)).mono ?_
    rintro _ s1 ⟨ow1,x1,rfl,g1,g2,g3,g4⟩
    have hpi:propIn l (c::rest) K v=(if (touchR v c l ls b).2.1=true then ((if (touchR v c l ls b).1=true then K++[c]else K)++rest,some c,(touchR v c l ls b).2.2)else propIn l rest (if (touchR v c l ls b).1=true then K++[c]else K) (touchR v c l ls b).2.2):=by
      conv=>lhs;unfold propIn
      rw[hc]
    rw[hpi]at hq
    rw[hxw]at g3 g4
    generalize hv1:(touchR v c l ls b).2.2=v1 at *
    have hw1:w<v1.watches.length:=by rw[t3.wlen];exact hw
    have hK1:WL n v1 K:=touch_wl t3 hcc hK
    have hr1:WL n v1 L:=touch_wl t3 hcc hr
    have hstep:=hst.trans g2
    have hsingle:∀s':ASt,s'.next=s'.next:=fun _=>rfl
    have bl:=bld_one (P:=Try.prog) (t:=89) (v:=ptrA c) Try.underlying89 sz92 zr92 rfl rfl
    have hms:∀ (m:Nat) (i:Nat),Made.val i (.slice m)=.slice (some (i,0)) m (some m):=fun _ _=>rfl
    cases ha:(touchR v c l ls b).1 with
    | false =>
      have hfb:(touchR v c l ls b).2.1=false:=by
        cases hfb:(touchR v c l ls b).2.1 with
        | false=>rfl
        | true=>exact absurd (touch_fs hfb) (by rw[ha];decide)
      rw[ha,hfb]at hq
      rw[ha]at htot
      have hq:=hq
      simp only[Bool.false_eq_true,if_false]at hq htot
      simp only[extract_bb0,extract_bb1,ha,hfb,c64o11,c64o13,c64o15,e3,hcast,Qa,Qb,Qc,Qd,Qe,Qf,Qg,Qh,Qi,Qj,Qk,Ql,Qm,Qn,true_and,and_true,Qo,Qp,Qq,Qr,Qs,Qt,Qu,Qv,Qw,Qx,Qy,Qz,Ra,Rb,Rc,Rd,Re,Rf,Rg,Rh,Ri,Rj,Rk,Rl,Rm,Ya,Yb,Yc,Rn,Ro,Rp,Yd,Ye,Rq,Rs,Rt,Ru,Rv,Rw,Rx]
      rw[← hW]
      exact ih (k+1) K s1 ow1 x1 v1 _ _ _ _ _ _ _ hd' (by omega) hlt hstep g1 g3 g4 hw1 t1 hK1 hr1 hfl (by omega) hq
    | true =>
      rw[ha]at hq htot
      simp only[if_true]at hq htot
      have hst2:Step (fun _=>False) ow1 s1 (ext ow1 s1.next (0,0,0)) (newObj s1 (mkRow 92 1 [ptrA c])):=Step.new _ ow1 s1 _ _
      have d2:=g1.keep hst2 (fun _ q=>q.elim)
      have hlw:w<(setW v1 (v1.watches.set w (K++L.drop K.length))).watches.length:=by show w<(v1.watches.set _ _).length;rw[List.length_set];exact hw1
      have g4':loadV Try.prog (newObj s1 (mkRow 92 1 [ptrA c])) 89 (addrOf xw w)=some u:=by
        rw[loadHK g1 hst2 hlw g3]
        exact g4
      obtain⟨u',q1,q2,q3⟩:=d2.watch_buf (k:=w) (L:=K++L.drop K.length) (by show(v1.watches.set _ _)[_]? = _;rw[List.getElem?_set,if_pos rfl,if_pos hw1])
      rw[g3,g4']at q2
      injection q2 with q2
      subst q2
      obtain⟨s3,a1,a2,a3,a4⟩:=q3.kept_put (st:=89) (e:=92) Try.underlying89 sz92 by92 (by decide) str89 (by rw[List.length_map,hML];omega) (m:=K.length) (add:=[ptrA c]) (by rw[List.length_map,hML];show K.length+1≤_;omega) rfl row_at
      have hbuf:List.take K.length (clss (K++L.drop K.length))++[ptrA c]++List.drop (K.length+[ptrA c].length) (clss (K++L.drop K.length))=clss ((K++[c])++L.drop (K++[c]).length):=by
        show _++_++List.drop (K.length+1) _=_
        rw[← List.map_take,← List.map_drop,List.take_append_of_le_length (Nat.le_refl _),List.take_length,List.drop_append,List.drop_drop,List.length_append,List.drop_eq_nil_of_le (show K.length≤K.length+1 by omega),List.nil_append,show K.length+(K.length+1 - K.length)=K.length+[c].length by show _=K.length+1;omega]
        simp[clss]
      rw[hbuf]at a2
      obtain⟨b1,b2⟩:=d2.watch_put (k:=w) (L:=K++L.drop K.length) (L':=(K++[c])++L.drop (K++[c]).length) (by show(v1.watches.set _ _)[_]? = _;rw[List.getElem?_set,if_pos rfl,if_pos hw1]) (by rw[g3];exact g4') a2 a3 a4
      have b1':SAt (ext ow1 s1.next (0,0,0)) s3 p x1 (setW v1 (v1.watches.set w ((K++[c])++L.drop (K++[c]).length))):=by
        have e:(v1.watches.set w (K++L.drop K.length)).set w ((K++[c])++L.drop (K++[c]).length)=v1.watches.set w ((K++[c])++L.drop (K++[c]).length):=List.set_set ..
        have:SAt (ext ow1 s1.next (0,0,0)) s3 p x1 (setW v1 ((v1.watches.set w (K++L.drop K.length)).set w ((K++[c])++L.drop (K++[c]).length))):=b1
        rw[e]at this
        exact this
      rw[g3]at b2
      have hstep3:Step (mine p) ow0 s0 (ext ow1 s1.next (0,0,0)) s3:=(hstep.trans (hst2.mono fun _ q=>q.elim)).trans (a3.mono fun t ht=>by rw[ht];rfl)
      have hK3:WL n v1 (K++[c]):=fun d hd=>by
        rcases List.mem_append.1 hd with hd | hd
        · exact hK1 d hd
        · rw[List.mem_singleton.1 hd];exact hcc
      have hKl:(K++[c]).length=K.length+1:=by rw[List.length_append];rfl
      cases hfb:(touchR v c l ls b).2.1 with
      | false =>
        rw[hfb]at hq
        simp only[Bool.false_eq_true,if_false]at hq
        have a1':appendA Try.prog (newObj s1 (mkRow 92 1 [ptrA c])) [89,89] [keptV u K.length,.slice (some (s1.next,0)) 1 (some 1)]=some (keptV u (K++[c]).length,s3):=by rw[hKl];exact a1
        simp only[ptrA]at bl a1'
        simp only[extract_bb0,extract_bb1,ha,hfb,c64o11,c64o12,c64o13,c64o15,ptrA,bl,hms,a1',e3,hcast,Qa,Qb,Qc,Qd,Qe,Qf,Qg,Qh,Qi,Qj,Qk,Ql,Qm,Qn,true_and,and_true,Qo,Qp,Qq,Qr,Qs,Qt,Qu,Qv,Qw,Qx,Qy,Qz,Ra,Rb,Rc,Rd,Re,Rf,Rg,Rh,Ri,Rj,Rk,Rl,Rm,Ya,Yb,Yc,Rn,Ro,Rp,Yd,Ye,Rq,Rs,Rt,Ru,Rv,Rw,Rx]
        rw[← hW]
        exact ih (k+1) (K++[c]) s3 _ x1 v1 _ _ _ _ _ _ _ hd' (by omega) hlt hstep3 b1' g3 b2 hw1 t1 hK3 hr1 hfl (by omega) hq
      | true =>
        rw[hfb]at hq
        simp only[if_true]at hq
        have a1':appendA Try.prog (newObj s1 (mkRow 92 1 [ptrA c])) [89,89] [keptV u K.length,.slice (some (s1.next,0)) 1 (some 1)]=some (keptV u (K++[c]).length,s3):=by rw[hKl];exact a1
        have hML2:((K++[c])++L.drop (K++[c]).length).length=L.length:=by rw[List.length_append,List.length_drop];omega
        obtain⟨r1',r2'⟩:=a2.rest Try.underlying89 sz92 (k:=k+1) (by rw[List.length_map,hML2];omega)
        have hdrop:List.drop (k+1) (clss ((K++[c])++L.drop (K++[c]).length))=clss rest:=by
          rw[← List.map_drop,List.drop_append,List.drop_eq_nil_of_le (by omega),List.nil_append,List.drop_drop,show(K++[c]).length+(k+1 - (K++[c]).length)=k+1 by omega,hd']
        rw[hdrop]at r2'
        have hrk:rest.length=L.length - (k+1):=by rw[← hd',List.length_drop]
        obtain⟨s4,f1,f2,f3,f4⟩:=a2.kept_put (st:=89) (e:=92) Try.underlying89 sz92 by92 (by decide) str89 (by rw[List.length_map,hML2];omega) (m:=(K++[c]).length) (add:=clss rest) (by rw[List.length_map,List.length_map,hML2];omega) (cells_ptr rest) r2'
        have hbuf2:List.take (K++[c]).length (clss ((K++[c])++L.drop (K++[c]).length))++clss rest++List.drop ((K++[c]).length+(clss rest).length) (clss ((K++[c])++L.drop (K++[c]).length))=clss ((K++[c])++rest++L.drop ((K++[c]).length+rest.length)):=by
          generalize K++[c]=K'
          have hr2:(clss rest).length=rest.length:=List.length_map ..
          rw[← List.map_take,← List.map_drop,List.take_append_of_le_length (Nat.le_refl _),List.take_length,hr2,List.drop_append,List.drop_eq_nil_of_le (show K'.length≤K'.length+rest.length by omega),List.nil_append,List.drop_drop,show K'.length+(K'.length+rest.length - K'.length)=K'.length+rest.length by omega]
          simp[clss]
        rw[hbuf2]at f2
        obtain⟨e1,e2⟩:=b1'.watch_put (k:=w) (L:=(K++[c])++L.drop (K++[c]).length) (L':=(K++[c])++rest++L.drop ((K++[c]).length+rest.length)) (by show(v1.watches.set _ _)[_]? = _;rw[List.getElem?_set,if_pos rfl,if_pos hw1]) (by rw[g3];exact b2) f2 f3 f4
        have e1':SAt (ext ow1 s1.next (0,0,0)) s4 p x1 (setW v1 (v1.watches.set w ((K++[c])++rest++L.drop ((K++[c]).length+rest.length)))):=by
          have e:(v1.watches.set w ((K++[c])++L.drop (K++[c]).length)).set w ((K++[c])++rest++L.drop ((K++[c]).length+rest.length))=v1.watches.set w ((K++[c])++rest++L.drop ((K++[c]).length+rest.length)):=List.set_set ..
          have:SAt (ext ow1 s1.next (0,0,0)) s4 p x1 (setW v1 ((v1.watches.set w ((K++[c])++L.drop (K++[c]).length)).set w ((K++[c])++rest++L.drop ((K++[c]).length+rest.length)))):=e1
          rw[e]at this
          exact this
        simp only[ptrA]at bl a1'
        simp only[extract_bb0,extract_bb1,ha,hfb,c64o11,c64o12,c64o13,c64o14,ptrA,bl,hms,a1',e3,hcast,r1',f1,Qa,Qb,Qc,Qd,Qe,Qf,Qg,Qh,Qi,Qj,Qk,Ql,Qm,Qn,true_and,and_true,Qo,Qp,Qq,Qr,Qs,Qt,Qu,Qv,Qw,Qx,Qy,Qz,Ra,Rb,Rc,Rd,Re,Rf,Rg,Rh,Ri,Rj,Rk,Rl,Rm,Ya,Yb,Yc,Rn,Ro,Rp,Yd,Ye,Rq,Rs,Rt,Ru,Rv,Rw,Rx]
        have hrl2:(clss rest).length=rest.length:=List.length_map ..
        have hlen:(K++[c]).length+(clss rest).length=(K++[c]++rest).length:=by rw[hrl2,← List.length_append]
        have hb:=f2.kept (m:=(K++[c]++rest).length) (by rw[List.length_map];exact(List.prefix_append ..).length_le)
        rw[← List.map_take,List.take_append_of_le_length (Nat.le_refl _),List.take_of_length_le (Nat.le_refl _)]at hb
        rw[hlen]
        exact hq s4 _ x1 _ _ _ _ _ _ _ _ _ e1' g3 hb (hstep3.trans (f3.mono fun t ht=>by rw[ht];rfl))
def propA(v:Sv)(w:Nat):Sv:={ v with head:=v.head+1,watches:=v.watches.set w [] }
def propB(w:Nat)(r:List Nat×Option Nat×Sv):Option Nat×Sv:=
  (r.2.1,match r.2.1 with
  | none=>setW r.2.2 (r.2.2.watches.set w r.1)
  | some _=>{ setW r.2.2 (r.2.2.watches.set w r.1)with head:=(r.2.2.trail.length:Int) })
def propStep(v:Sv):Option Nat×Sv:=propB (place (-(v.trail.getD v.head.toNat 0))) (propIn (-(v.trail.getD v.head.toNat 0)) (v.watches.getD (place (-(v.trail.getD v.head.toNat 0))) []) [] (propA v (place (-(v.trail.getD v.head.toNat 0)))))
inductive PropR:Sv→Option Nat→Sv→Prop
  | done {v:Sv}:¬ v.head<(v.trail.length:Int)→PropR v none v
  | more {v v1 v':Sv} {r:Option Nat}:v.head<(v.trail.length:Int)→propStep v=(none,v1)→PropR v1 r v'→PropR v r v'
  | bad {v v1:Sv} {c:Nat}:v.head<(v.trail.length:Int)→propStep v=(some c,v1)→PropR v (some c) v1
structure Inv2(n B:Nat)(v:Sv):Prop where
  inv:Inv1 n v
  tot:Tot v.watches≤B
  h0:0≤v.head
  h1:v.head≤v.trail.length
theorem isV_neg(val:List Int){l:Int}(hl:l≠0):isV val (-l)=-(isV val l):=by
  unfold isV
  rw[show(-l).natAbs=l.natAbs by omega]
  split<;>split<;>omega
theorem Inv1.isV{n:Nat}{v:Sv}(h:Inv1 n v){y:Int}(hy:y∈v.trail):Go.Proofs.Ytilhhmkdcoajnaa.Am.isV v.value y=1:=by
  have h1:=h.holds y hy
  have h0:=(h.fit.lits y hy).1
  unfold Go.Proofs.Ytilhhmkdcoajnaa.Am.isV
  rw[h1]
  unfold sgn
  split<;>omega
theorem sub_trail {n : Nat} {l : Int} : ∀ (rest K : List Nat) (v : Sv), v.trail.length ≤ (propIn l rest K v).2.2.trail.length
  | [],K,v=>Nat.le_refl _
  | c::rest,K,v=>by
    unfold propIn
    cases hc:v.cl c with
    | none=>exact Nat.le_refl _
    | some lb =>
      obtain⟨ls,b⟩:=lb
      have ht : v.trail.length ≤ (touchR v c l ls b).2.2.trail.length := by
        unfold touchR
        split
        · exact Nat.le_refl _
        · dsimp only
          generalize (if ls.getD 0 0=l then swapL ls 0 1 else ls)=ls1
          split
          · exact Nat.le_refl _
          · split
            · exact Nat.le_refl _
            · split
              · exact Nat.le_refl _
              · show _≤(v.trail++[_]).length
                rw[List.length_append];omega
      dsimp only
      split
      · exact ht
      · exact Nat.le_trans ht (sub_trail (n:=n) rest _ _)
theorem propStep_keep{n B:Nat}{v:Sv}(h:Inv2 n B v)(hh:v.head<(v.trail.length:Int)):Inv2 n B (propStep v).2∧(propStep v).2.limits=v.limits∧v.head+1≤(propStep v).2.head:=by
  obtain⟨hi,ht,h0,h1⟩:=h
  have hy:v.trail.getD v.head.toNat 0∈v.trail:=List.mem_of_getElem? (getD_get (by omega))
  generalize hyy:v.trail.getD v.head.toNat 0=y at hy
  have hVL:=hi.fit.lits y hy
  have hy1:=hi.isV hy
  have hl0:-y≠0:=by have:=hVL.1;omega
  have hwl:place (-y)<v.watches.length:=by
    rw[hi.fit.siz.w]
    exact VL.place ⟨hl0,by have:=hVL.2;omega⟩
  have hf:isV v.value (-y)<0:=by rw[isV_neg _ hVL.1,hy1];omega
  have hg:=getD_get (d:=([]:List Nat)) hwl
  have hLw:WL n v (v.watches.getD (place (-y)) []):=hi.wc _ (List.mem_of_getElem? hg)
  have hiA:Inv1 n (propA v (place (-y))):=by
    obtain⟨⟨hz,hv,hli,hlm⟩,g2,g3,g4,g5⟩:=hi.setW (k:=place (-y)) (M:=[]) (fun d hd=>by cases hd)
    exact⟨⟨⟨hz.small,hz.w,hz.value,hz.level,hz.why,hz.heat,hz.phase,hz.trail,hz.limits⟩,hv,hli,hlm⟩,g2,g3,g4,g5⟩
  obtain⟨k1,k2⟩:=propIn_keep hl0 (v.watches.getD (place (-y)) []) [] (propA v (place (-y))) hiA (fun d hd=>by cases hd) hLw hf
  have htA:Tot (propA v (place (-y))).watches+(v.watches.getD (place (-y)) []).length=Tot v.watches:=by
    have:=Tot.set [] hg
    exact this
  have htr:=sub_trail (n:=n) (l:=-y) (v.watches.getD (place (-y)) []) [] (propA v (place (-y)))
  unfold propStep propB
  rw[hyy]
  generalize propIn (-y) (v.watches.getD (place (-y)) []) [] (propA v (place (-y)))=r at k1 k2 htr
  obtain⟨K,bad,v1⟩:=r
  dsimp only at k1 k2 htr ⊢
  have hi2:=k1.inv.setW (k:=place (-y)) k1.wl
  have hw0:v1.watches[place (-y)]? = some []:=by
    rw[k1.w]
    show(v.watches.set _ _)[_]? = _
    rw[List.getElem?_set,if_pos rfl,if_pos hwl]
  have htt:Tot (v1.watches.set (place (-y)) K)≤B:=by
    have:=Tot.set K hw0
    have e:([]:List Nat).length=0:=rfl
    omega
  have hhd:v1.head=v.head+1:=k1.head
  have hlim:v1.limits=v.limits:=k1.limits
  have htr:v.trail.length≤v1.trail.length:=htr
  cases bad with
  | none=>exact⟨⟨hi2,htt,by show 0≤v1.head;omega,by show v1.head≤(v1.trail.length:Int);omega⟩,hlim,by show _≤v1.head;omega⟩
  | some c =>
    obtain⟨⟨hz,hv,hli,hlm⟩,g2,g3,g4,g5⟩:=hi2
    exact⟨⟨⟨⟨⟨hz.small,hz.w,hz.value,hz.level,hz.why,hz.heat,hz.phase,hz.trail,hz.limits⟩,hv,hli,hlm⟩,g2,g3,g4,g5⟩,htt,by show(0:Int)≤(v1.trail.length:Int);omega,Int.le_refl _⟩,hlim,by show _≤(v1.trail.length:Int);omega⟩
theorem PropR.keep{n B:Nat}{v v':Sv}{r:Option Nat}(k:PropR v r v'):Inv2 n B v→Inv2 n B v'∧v'.limits=v.limits:=by
  induction k with
  | done _=>exact fun h=>⟨h,rfl⟩
  | more h1 h2 _ ih =>
    intro h
    have:=propStep_keep h h1
    rw[h2]at this
    obtain⟨q1,q2,_⟩:=this
    obtain⟨q3,q4⟩:=ih q1
    exact⟨q3,q4.trans q2⟩
  | bad h1 h2 =>
    intro h
    have:=propStep_keep h h1
    rw[h2]at this
    exact⟨this.1,this.2.1⟩
theorem eq_why(c:Option Nat):binA Try.prog .neq 92 (whyA c) (.ptr none)=some (.bool c.isSome):=by
  cases c<;>rfl
theorem prop_o2{E:Env}{K:List AV→ASt→Prop}{ow:Ow}{s:ASt}{p:Nat}{x:Sf}{v:Sv}(h:SAt ow s p x v){y:Int}(h0:0≤v.head)(hgy:v.trail[v.head.toNat]? = some y)(hy:y.natAbs<1000000000)(hl:v.trail.length<1000000000)(r2 r3 r4 r5 r6 r7 r8 r9 r10 r11 r12 r13 r14 r15 r16 r17:AV)
    (hK:∀s1,SAt ow s1 p x { v with head:=v.head+1 }→Step (mineB p) ow s ow s1→K [AV.ptr (some (p,0)),AV.ptr none,iv (-y),r3,r4,r5,r6,r7,r8,r9,r10,r11,r12,r13,r14,r15,r16,r17] s1):
    Qb E c64o2 (fun u s'=>Qb E c64o3 K [] u s') [] [AV.ptr (some (p,0)),AV.ptr none,r2,r3,r4,r5,r6,r7,r8,r9,r10,r11,r12,r13,r14,r15,r16,r17] s:=by
  have hlt:=lt_of_get hgy
  have hht:((v.head.toNat:Nat):Int)=v.head:=by omega
  have i1:=h.trail.addr Try.underlying23 sz3 (k:=v.head.toNat) (by rw[List.length_map];omega)
  have i2:=h.trail.get (t:=3) ag3 (k:=v.head.toNat) (get_ivs hgy)
  rw[hht]at i1
  have en:=un_neg Try.prog y ⟨by omega,by omega⟩
  have e3:=bin_add Try.prog 3 v.head 1 ⟨by omega,by omega⟩
  obtain⟨s1,a1,a2,a3,a4⟩:=h.set_head (v.head+1)
  simp only[c64o2,c64o3,nilCheck_ptr,fa91_9,fa91_7,h.ld_head,h.ld_tr,i1,i2,en,e3,on2,a1,withV,Qa,Qb,Qc,Qd,Qe,Qf,Qg,Qh,Qi,Qj,Qk,Ql,Qm,Qn,true_and,and_true,Qo,Qp,Qq,Qr,Qs,Qt,Qu,Qv,Qw,Qx,Qy,Qz,Ra,Rb,Rc,Rd,Re,Rf,Rg,Rh,Ri,Rj,Rk,Rl,Rm,Ya,Yb,Yc,Rn,Ro,Rp,Yd,Ye,Rq,Rs,Rt,Ru,Rv,Rw,Rx]
  exact hK s1 a2 a3
theorem prop_loop {E : Env} (hE : Good E) {p n : Nat} {B : Nat} (hB : B ≤ 50000000) {ow0 : Ow} {s0 : ASt} {Q : ARes → Prop} :
    ∀ (m : Nat) (s : ASt) (ow : Ow) (x : Sf) (v : Sv) (r2 r3 r4 r5 r6 r7 r8 r9 r10 r11 r12 r13 r14 r15 r16 r17 : AV), n - v.head.toNat = m → Inv2 n B v → SAt ow s p x v → Step (mine p) ow0 s0 ow s →
      (∀s' ow' x' v' y2 y3 y4 y5 y6 y7 y8 y9 y10 y11 y12 y13 y14 y15 y16 y17,PropR v none v'→SAt ow' s' p x' v'→Step (mine p) ow0 s0 ow' s'→Q ⟨.exit 0,[ptrA p,.ptr none,y2,y3,y4,y5,y6,y7,y8,y9,y10,y11,y12,y13,y14,y15,y16,y17],[],s'⟩) →
      (∀s' ow' x' v' c y2 y3 y4 y5 y6 y7 y8 y9 y10 y11 y12 y13 y14 y15 y16 y17,PropR v (some c) v'→SAt ow' s' p x' v'→Step (mine p) ow0 s0 ow' s'→Q ⟨.ret,[ptrA p,ptrA c,y2,y3,y4,y5,y6,y7,y8,y9,y10,y11,y12,y13,y14,y15,y16,y17],[],s'⟩) →
      WC E none (.loop c64l21) Q [ptrA p,.ptr none,r2,r3,r4,r5,r6,r7,r8,r9,r10,r11,r12,r13,r14,r15,r16,r17] [] s:=by
  intro m
  induction m using Nat.strongRecOn with
  | ind m ih =>
    intro s ow x v r2 r3 r4 r5 r6 r7 r8 r9 r10 r11 r12 r13 r14 r15 r16 r17 hm h2 h hst hq1 hq2
    obtain⟨hi,ht,h0,h1⟩:=h2
    have hz:=hi.fit.siz
    have hn:=hz.small
    have htl:=hz.trail
    have ln:∀s,lenA Try.prog s 23 x.tr=some (iv (v.trail.length:Int)):=fun s=>by
      have:=h.trail.len Try.underlying23 s
      rw[List.length_map]at this
      exact this
    refine WC.loop' ?_
    generalize hW:WC E none (CCode.loop c64l21) Q=W
    by_cases hh:v.head<(v.trail.length:Int)
    · have hd : decide (v.head < (v.trail.length : Int)) = true := decide_eq_true hh
      have hgy:=getD_get (d:=(0:Int)) (show v.head.toNat<v.trail.length by omega)
      have hy:v.trail.getD v.head.toNat 0∈v.trail:=List.mem_of_getElem? hgy
      generalize hyy:v.trail.getD v.head.toNat 0=y at hy hgy
      have hVL:=hi.fit.lits y hy
      have hy1:=hi.isV hy
      have hl0:-y≠0:=by have:=hVL.1;omega
      have hVLn:(-y).natAbs≤n:=by have:=hVL.2;omega
      have hwl:place (-y)<v.watches.length:=by
        rw[hi.fit.siz.w]
        exact VL.place ⟨hl0,hVLn⟩
      have hf:isV v.value (-y)<0:=by rw[isV_neg _ hVL.1,hy1];omega
      have hg:=getD_get (d:=([]:List Nat)) hwl
      have hLw:WL n v (v.watches.getD (place (-y)) []):=hi.wc _ (List.mem_of_getElem? hg)
      have hiA:Inv1 n (propA v (place (-y))):=by
        obtain⟨⟨hz,hv,hli,hlm⟩,g2,g3,g4,g5⟩:=hi.setW (k:=place (-y)) (M:=[]) (fun d hd=>by cases hd)
        exact⟨⟨⟨hz.small,hz.w,hz.value,hz.level,hz.why,hz.heat,hz.phase,hz.trail,hz.limits⟩,hv,hli,hlm⟩,g2,g3,g4,g5⟩
      have hps:propStep v=propB (place (-y)) (propIn (-y) (v.watches.getD (place (-y)) []) [] (propA v (place (-y)))):=by
        unfold propStep
        rw[hyy]
      have hkeep:=propStep_keep ⟨hi,ht,h0,h1⟩ hh
      generalize hL:v.watches.getD (place (-y)) []=L at hg hLw hps
      have hLB:L.length≤B:=Nat.le_trans (Tot.le (List.mem_of_getElem? hg)) ht
      simp only[c64l21,c64o1,ptrA,nilCheck_ptr,fa91_9,fa91_7,fa91_0,h.ld_head,h.ld_tr,ln,hd,Qa,Qb,Qc,Qd,Qe,Qf,Qg,Qh,Qi,Qj,Qk,Ql,Qm,Qn,true_and,and_true,Qo,Qp,Qq,Qr,Qs,Qt,Qu,Qv,Qw,Qx,Qy,Qz,Ra,Rb,Rc,Rd,Re,Rf,Rg,Rh,Ri,Rj,Rk,Rl,Rm,Ya,Yb,Yc,Rn,Ro,Rp,Yd,Ye,Rq,Rs,Rt,Ru,Rv,Rw,Rx]
      refine prop_o2 h h0 hgy (by omega) (by omega) _ _ _ _ _ _ _ _ _ _ _ _ _ _ _ _ ?_
      intro s1 a2 a3
      obtain⟨u,w1,w2,w3⟩:=a2.watch_buf (k:=place (-y)) (L:=L) hg
      have ko:=w3.kept_op Try.underlying89 sz92
      have lu:∀s,lenA Try.prog s 89 u=some (iv (L.length:Int)):=fun s=>by
        have:=w3.len Try.underlying89 s
        rw[List.length_map]at this
        exact this
      rw[List.length_map]at ko
      have hself:eqA x.w x.w=true:=by obtain⟨us,_,w2,_⟩:=h.w;exact w2.self
      simp only[c64o4,ptrA,nilCheck_ptr,fa91_0,a2.ld_w,Qa,Qb,Qc,Qd,Qe,Qf,Qg,Qh,Qi,Qj,Qk,Ql,Qm,Qn,true_and,and_true,Qo,Qp,Qq,Qr,Qs,Qt,Qu,Qv,Qw,Qx,Qy,Qz,Ra,Rb,Rc,Rd,Re,Rf,Rg,Rh,Ri,Rj,Rk,Rl,Rm,Ya,Yb,Yc,Rn,Ro,Rp,Yd,Ye,Rq,Rs,Rt,Ru,Rv,Rw,Rx]
      refine(place_ok hE (l:=-y) (by omega)).mono ?_
      rintro _ _ ⟨rfl,rfl⟩
      simp only[again_r1,sameA_some,a2.ld_w,hself,w1,w2,c64o5,lu,ko,c64o6,c64o7,Qa,Qb,Qc,Qd,Qe,Qf,Qg,Qh,Qi,Qj,Qk,Ql,Qm,Qn,true_and,and_true,Qo,Qp,Qq,Qr,Qs,Qt,Qu,Qv,Qw,Qx,Qy,Qz,Ra,Rb,Rc,Rd,Re,Rf,Rg,Rh,Ri,Rj,Rk,Rl,Rm,Ya,Yb,Yc,Rn,Ro,Rp,Yd,Ye,Rq,Rs,Rt,Ru,Rv,Rw,Rx]
      have hset:(v.watches.set (place (-y)) []).set (place (-y)) ([]++L.drop 0)=v.watches:=by
        rw[List.set_set]
        show v.watches.set _ L=_
        obtain⟨hgl,hge⟩:=List.getElem?_eq_some_iff.1 hg
        rw[← hge,List.set_getElem_self]
      have a2':SAt ow s1 p x (setW (propA v (place (-y))) ((propA v (place (-y))).watches.set (place (-y)) ([]++L.drop ([]:List Nat).length))):=by
        have e:setW (propA v (place (-y))) ((propA v (place (-y))).watches.set (place (-y)) ([]++L.drop ([]:List Nat).length))={ v with head:=v.head+1 }:=by
          show({ v with head:=v.head+1,watches:=(v.watches.set (place (-y)) []).set (place (-y)) ([]++L.drop 0) }:Sv)=_
          rw[hset]
        rw[e];exact a2
      have hlA:place (-y)<(propA v (place (-y))).watches.length:=by show _<(v.watches.set _ _).length;rw[List.length_set];exact hwl
      have htA:Tot (propA v (place (-y))).watches+L.length=Tot v.watches:=Tot.set [] hg
      have hstA:Step (mine p) ow0 s0 ow s1:=hst.trans a3.b
      refine prop_in hE hl0 (n:=n) (rfl:place (-y)=place (-y)) hB hLB (u:=u) (xw:=x.w) (.ptr none) (.bool true) r17 (ow0:=ow0) (s0:=s0) L 0 [] s1 ow x (propA v (place (-y))) _ _ _ _ _ _ _ rfl (Nat.le_refl _) (Nat.zero_le _) hstA a2' rfl w2 hlA hiA (fun d hd=>by cases hd) hLw hf (by show Tot _+0+_≤_;omega) ?_
      intro s2 ow2 x2 M y6 y7 y8 y9 y13 y14 y15 y16 k1 k2 k3 k4
      have hpk:=(propIn_keep hl0 L [] (propA v (place (-y))) hiA (fun d hd=>by cases hd) hLw hf).1
      generalize propIn (-y) L [] (propA v (place (-y)))=r at *
      obtain⟨K,bad,V⟩:=r
      dsimp only at k1 k2 k3 k4 hps hpk ⊢
      have hlV:place (-y)<(setW V (V.watches.set (place (-y)) M)).watches.length:=by show _<(V.watches.set _ _).length;rw[List.length_set,hpk.wlen];exact hlA
      obtain⟨us,z1,z2,z3⟩:=k1.w
      have iw:=z2.addr Try.underlying88 sz89 (k:=place (-y)) (by omega)
      rw[k2]at iw
      obtain⟨s3,b1,b2,b3,b4⟩:=k1.watch_set hlV k3
      rw[k2]at b1
      have hself2:eqA x.w x.w=true:=by have:=z2.self;rw[k2]at this;exact this
      have ldw2:=k1.ld_w
      rw[k2]at ldw2
      have b2':SAt ow2 s3 p x2 (setW V (V.watches.set (place (-y)) K)):=by
        have e:(V.watches.set (place (-y)) M).set (place (-y)) K=V.watches.set (place (-y)) K:=List.set_set ..
        have:SAt ow2 s3 p x2 (setW V ((V.watches.set (place (-y)) M).set (place (-y)) K)):=b2
        rw[e]at this
        exact this
      simp only[if_true,c64o17,ptrA,nilCheck_ptr,fa91_0,ldw2,Qa,Qb,Qc,Qd,Qe,Qf,Qg,Qh,Qi,Qj,Qk,Ql,Qm,Qn,true_and,and_true,Qo,Qp,Qq,Qr,Qs,Qt,Qu,Qv,Qw,Qx,Qy,Qz,Ra,Rb,Rc,Rd,Re,Rf,Rg,Rh,Ri,Rj,Rk,Rl,Rm,Ya,Yb,Yc,Rn,Ro,Rp,Yd,Ye,Rq,Rs,Rt,Ru,Rv,Rw,Rx]
      refine(place_ok hE (l:=-y) (by omega)).mono ?_
      rintro _ _ ⟨rfl,rfl⟩
      cases bad with
      | none =>
        have hps:propStep v=(none,setW V (V.watches.set (place (-y)) K)):=hps
        rw[hps]at hkeep
        simp only[again_r1,sameA_some,ldw2,hself2,iw,on2,b1,withV,c64o18,eq_why,Option.isSome,Qa,Qb,Qc,Qd,Qe,Qf,Qg,Qh,Qi,Qj,Qk,Ql,Qm,Qn,true_and,and_true,Qo,Qp,Qq,Qr,Qs,Qt,Qu,Qv,Qw,Qx,Qy,Qz,Ra,Rb,Rc,Rd,Re,Rf,Rg,Rh,Ri,Rj,Rk,Rl,Rm,Ya,Yb,Yc,Rn,Ro,Rp,Yd,Ye,Rq,Rs,Rt,Ru,Rv,Rw,Rx]
        rw[← hW]
        refine ih (n - (setW V (V.watches.set (place (-y)) K)).head.toNat) ?_ s3 ow2 x2 _ _ _ _ _ _ _ _ _ _ _ _ _ _ _ _ _ rfl hkeep.1 b2' (k4.trans b3.w) (fun s' ow' x' v' y2 y3 y4 y5 y6 y7 y8 y9 y10 y11 y12 y13 y14 y15 y16 y17 e=>hq1 s' ow' x' v' y2 y3 y4 y5 y6 y7 y8 y9 y10 y11 y12 y13 y14 y15 y16 y17 (.more hh hps e)) (fun s' ow' x' v' c y2 y3 y4 y5 y6 y7 y8 y9 y10 y11 y12 y13 y14 y15 y16 y17 e=>hq2 s' ow' x' v' c y2 y3 y4 y5 y6 y7 y8 y9 y10 y11 y12 y13 y14 y15 y16 y17 (.more hh hps e))
        have:=hkeep.2.2
        have:=hkeep.1.h1
        have:=hkeep.1.inv.fit.siz.trail
        dsimp only at *
        omega
      | some c =>
        have hps:propStep v=(some c,{ setW V (V.watches.set (place (-y)) K)with head:=(V.trail.length:Int) }):=hps
        have ln2:∀s,lenA Try.prog s 23 x2.tr=some (iv ((setW V (V.watches.set (place (-y)) K)).trail.length:Int)):=fun s=>by
          have:=b2'.trail.len Try.underlying23 s
          rw[List.length_map]at this
          exact this
        obtain⟨s4,d1,d2,d3,d4⟩:=b2'.set_head ((setW V (V.watches.set (place (-y)) K)).trail.length:Int)
        simp only[again_r1,sameA_some,ldw2,hself2,iw,on2,b1,withV,c64o18,eq_why,Option.isSome,c64o19,ptrA,nilCheck_ptr,fa91_7,fa91_9,b2'.ld_tr,ln2,d1,c64o20,Qa,Qb,Qc,Qd,Qe,Qf,Qg,Qh,Qi,Qj,Qk,Ql,Qm,Qn,true_and,and_true,Qo,Qp,Qq,Qr,Qs,Qt,Qu,Qv,Qw,Qx,Qy,Qz,Ra,Rb,Rc,Rd,Re,Rf,Rg,Rh,Ri,Rj,Rk,Rl,Rm,Ya,Yb,Yc,Rn,Ro,Rp,Yd,Ye,Rq,Rs,Rt,Ru,Rv,Rw,Rx]
        exact hq2 s4 ow2 x2 _ c _ _ _ _ _ _ _ _ _ _ _ _ _ _ _ _ (.bad hh hps) d2 (k4.trans (b3.w.trans d3.b))
    · have hd:decide (v.head<(v.trail.length:Int))=false:=decide_eq_false hh
      simp only[c64l21,c64o1,ptrA,nilCheck_ptr,fa91_9,fa91_7,h.ld_head,h.ld_tr,ln,hd,Qa,Qb,Qc,Qd,Qe,Qf,Qg,Qh,Qi,Qj,Qk,Ql,Qm,Qn,true_and,and_true,Qo,Qp,Qq,Qr,Qs,Qt,Qu,Qv,Qw,Qx,Qy,Qz,Ra,Rb,Rc,Rd,Re,Rf,Rg,Rh,Ri,Rj,Rk,Rl,Rm,Ya,Yb,Yc,Rn,Ro,Rp,Yd,Ye,Rq,Rs,Rt,Ru,Rv,Rw,Rx]
      exact hq1 s ow x v _ _ _ _ _ _ _ _ _ _ _ _ _ _ _ _ (PropR.done hh) h hst
theorem propagate_ok{E:Env}(hE:Good E){ow:Ow}{s:ASt}{p:Nat}{x:Sf}{v:Sv}(h:SAt ow s p x v){n B:Nat}(hB:B≤50000000)(h2:Inv2 n B v):
    WF E 64 [ptrA p] (fun r s'=>∃c v' ow' x',PropR v c v'∧r=whyA c∧SAt ow' s' p x' v'∧Step (mine p) ow s ow' s') s:=by
  refine hE.go comp64 (by decide) rfl ?_
  simp only[c64,c64o0,Qa,Qb,Qc,Qd,Qe,Qf,Qg,Qh,Qi,Qj,Qk,Ql,Qm,Qn,true_and,and_true,Qo,Qp,Qq,Qr,Qs,Qt,Qu,Qv,Qw,Qx,Qy,Qz,Ra,Rb,Rc,Rd,Re,Rf,Rg,Rh,Ri,Rj,Rk,Rl,Rm,Ya,Yb,Yc,Rn,Ro,Rp,Yd,Ye,Rq,Rs,Rt,Ru,Rv,Rw,Rx]
  refine prop_loop hE hB (ow0:=ow) (s0:=s) _ s ow x v _ _ _ _ _ _ _ _ _ _ _ _ _ _ _ _ rfl h2 h (Step.refl _ _ _) ?_ ?_
  · intro s' ow' x' v' y2 y3 y4 y5 y6 y7 y8 y9 y10 y11 y12 y13 y14 y15 y16 y17 e1 e2 e3
    simp only[if_true,c64o22,Qa,Qb,Qc,Qd,Qe,Qf,Qg,Qh,Qi,Qj,Qk,Ql,Qm,Qn,true_and,and_true,Qo,Qp,Qq,Qr,Qs,Qt,Qu,Qv,Qw,Qx,Qy,Qz,Ra,Rb,Rc,Rd,Re,Rf,Rg,Rh,Ri,Rj,Rk,Rl,Rm,Ya,Yb,Yc,Rn,Ro,Rp,Yd,Ye,Rq,Rs,Rt,Ru,Rv,Rw,Rx]
    exact⟨none,v',ow',x',e1,rfl,e2,e3⟩
  · intro s' ow' x' v' c y2 y3 y4 y5 y6 y7 y8 y9 y10 y11 y12 y13 y14 y15 y16 y17 e1 e2 e3
    simp only[Qa,Qb,Qc,Qd,Qe,Qf,Qg,Qh,Qi,Qj,Qk,Ql,Qm,Qn,true_and,and_true,Qo,Qp,Qq,Qr,Qs,Qt,Qu,Qv,Qw,Qx,Qy,Qz,Ra,Rb,Rc,Rd,Re,Rf,Rg,Rh,Ri,Rj,Rk,Rl,Rm,Ya,Yb,Yc,Rn,Ro,Rp,Yd,Ye,Rq,Rs,Rt,Ru,Rv,Rw,Rx]
    exact⟨some c,v',ow',x',e1,rfl,e2,e3⟩
theorem getD_of{α:Type}{l:List α}{k:Nat}{d y:α}(h:l[k]? = some y):l.getD k d=y:=by
  rw[List.getD_eq_getElem?_getD,h];rfl
theorem eq_ptr44(p:Nat):binA Try.prog .eql 44 (ptrA p) (.ptr none)=some (.bool false):=rfl
def watchV(v:Sv)(c:Nat)(a b:Int):Sv:=setW v (wPut (wPut v.watches (place a) c) (place b) c)
theorem watch_o3{E:Env}(hE:Good E){K:List AV→ASt→Prop}{ow:Ow}{s:ASt}{p:Nat}{x:Sf}{v:Sv}(h:SAt ow s p x v){y:Int}(hp:place y<v.watches.length)(hy:y.natAbs<1000000000)(hs:Short v.watches)(c:Nat)(x3 x4 x5 x6:AV)
    (hK:∀s1 ow1,SAt ow1 s1 p x (setW v (wPut v.watches (place y) c))→Step (mineW p) ow s ow1 s1→K [AV.ptr (some (p,0)),AV.ptr (some (c,0)),iv y,x3,x4,x5,x6] s1):
    Qb E c78o3 K [] [AV.ptr (some (p,0)),AV.ptr (some (c,0)),iv y,x3,x4,x5,x6] s:=by
  have hst:Step (fun _=>False) ow s (ext ow s.next (0,0,0)) (newObj s (mkRow 92 1 [ptrA c])):=Step.new _ ow s _ _
  have d2:=h.keep hst (fun _ q=>q.elim)
  have hwk:v.watches[place y]? = some (v.watches.getD (place y) []):=getD_get hp
  obtain⟨w1,w1',s3,s4,ow',f1,f2,f3,ldw3,f4,f5,f6,f7⟩:=d2.watch_in (k:=place y) hwk (by have:=hs _ (List.mem_of_getElem? hwk);omega) c (q:=s.next) (ty:=92) (sz':=1) (by rw[heap_new,if_pos rfl])
  have bl:=bld_one (P:=Try.prog) (t:=89) (v:=ptrA c) Try.underlying89 sz92 zr92 rfl rfl
  have hms:∀ (m:Nat) (i:Nat),Made.val i (.slice m)=.slice (some (i,0)) m (some m):=fun _ _=>rfl
  have hself:eqA x.w x.w=true:=by obtain⟨us,_,w2,_⟩:=h.w;exact w2.self
  have ldw:=h.ld_w
  have ldw':=d2.ld_w
  simp only[ptrA]at bl f1 f2 f3 f4 ldw'
  simp only[c78o3,nilCheck_ptr,fa91_0,ldw,bl,hms,Qa,Qb,Qc,Qd,Qe,Qf,Qg,Qh,Qi,Qj,Qk,Ql,Qm,Qn,true_and,and_true,Qo,Qp,Qq,Qr,Qs,Qt,Qu,Qv,Qw,Qx,Qy,Qz,Ra,Rb,Rc,Rd,Re,Rf,Rg,Rh,Ri,Rj,Rk,Rl,Rm,Ya,Yb,Yc,Rn,Ro,Rp,Yd,Ye,Rq,Rs,Rt,Ru,Rv,Rw,Rx]
  refine(place_ok hE (l:=y) hy).mono ?_
  rintro _ _ ⟨rfl,rfl⟩
  simp only[again_r1,sameA_some,ldw',hself,Qa,Qb,Qc,Qd,Qe,Qf,Qg,Qh,Qi,Qj,Qk,Ql,Qm,Qn,true_and,and_true,Qo,Qp,Qq,Qr,Qs,Qt,Qu,Qv,Qw,Qx,Qy,Qz,Ra,Rb,Rc,Rd,Re,Rf,Rg,Rh,Ri,Rj,Rk,Rl,Rm,Ya,Yb,Yc,Rn,Ro,Rp,Yd,Ye,Rq,Rs,Rt,Ru,Rv,Rw,Rx]
  refine(place_ok hE (l:=y) hy).mono ?_
  rintro _ _ ⟨rfl,rfl⟩
  simp only[again_r1,sameA_some,ldw',hself,f1,f2,f3,ldw3,on2,f4,withV,Qa,Qb,Qc,Qd,Qe,Qf,Qg,Qh,Qi,Qj,Qk,Ql,Qm,Qn,true_and,and_true,Qo,Qp,Qq,Qr,Qs,Qt,Qu,Qv,Qw,Qx,Qy,Qz,Ra,Rb,Rc,Rd,Re,Rf,Rg,Rh,Ri,Rj,Rk,Rl,Rm,Ya,Yb,Yc,Rn,Ro,Rp,Yd,Ye,Rq,Rs,Rt,Ru,Rv,Rw,Rx]
  exact hK s4 ow' f5 ((hst.mono fun _ q=>q.elim).trans f6)
theorem watch_ok{E:Env}(hE:Good E){ow:Ow}{s:ASt}{p:Nat}{x:Sf}{v:Sv}(h:SAt ow s p x v){n:Nat}(hn:n<100000000)(hw:v.watches.length=2 * n+2)(hs:Tot v.watches≤90000000){c:Nat}{ls:List Int}{b:Bool×Bool}(hc:v.cl c=some (ls,b))(hl:ClsOk n ls)(h2:2≤ls.length):
    WF E 78 [ptrA p,ptrA c] (fun _ s'=>∃ow',SAt ow' s' p x (watchV v c (ls.getD 0 0) (ls.getD 1 0))∧Step (mineW p) ow s ow' s') s:=by
  obtain⟨u,u1,u2,u3,u4,u5⟩:=h.lits hc
  have u4:Buf ow (p,15,c) s u (ivs ls):=u4
  have ct:=u4.cut_op Try.underlying23 sz3 (k:=2) (by rw[List.length_map];exact h2)
  have ct:sliceOpnds Try.prog 23 false true false s [u,iv 2]=some (cutV u 2):=ct
  have cb:=u4.cut (k:=2) (by rw[List.length_map];exact h2)
  have hg0:=getD_get (d:=(0:Int)) (show 0<ls.length by omega)
  have hg1:=getD_get (d:=(0:Int)) (show 1<ls.length by omega)
  have V0:=hl.get (k:=0) (by omega)
  have V1:=hl.get (k:=1) (by omega)
  generalize hy0:ls.getD 0 0=y0 at *
  generalize hy1:ls.getD 1 0=y1 at *
  have hcs:(ivs ls).take 2=[iv y0,iv y1]:=by
    match ls,hg0,hg1 with
    | a::b::l,e0,e1 =>
      have:a=y0:=by simpa using e0
      have:b=y1:=by simpa using e1
      subst y0;subst y1;rfl
  rw[hcs]at cb
  have ln:∀s,lenA Try.prog s 23 (cutV u 2)=some (iv 2):=fun s=>cb.len Try.underlying23 s
  have ht:∀ (s:ASt),True:=fun _=>trivial
  have hx0:∀j,j≠15→¬ mineW p ((p,15,c):Tag):=fun j hj q=>by rcases q.2 with q | q<;>cases q
  have hx:¬ mineW p ((p,15,c):Tag):=fun q=>by rcases q.2 with q | q<;>cases q
  refine hE.go comp78 (by decide) rfl ?_
  have i0:indexAddrA Try.prog 23 (cutV u 2) (iv 0)=some (addrOf (cutV u 2) 0):=cb.addr Try.underlying23 sz3 (k:=0) (by show 0<2;omega)
  have i1:indexAddrA Try.prog 23 (cutV u 2) (iv 1)=some (addrOf (cutV u 2) 1):=cb.addr Try.underlying23 sz3 (k:=1) (by show 1<2;omega)
  have g0:=cb.get (t:=3) ag3 (k:=0) (u:=iv y0) rfl
  have e1:=bin_add Try.prog 3 0 1 ⟨by decide,by decide⟩
  have e2:=bin_add Try.prog 3 1 1 ⟨by decide,by decide⟩
  have hd0:decide ((0:Int)<2)=true:=rfl
  have hd1:decide ((1:Int)<2)=true:=rfl
  have hd2:decide ((2:Int)<2)=false:=rfl
  have z1:(0:Int)+1=1:=rfl
  have z2:(1:Int)+1=2:=rfl
  rw[z1]at e1
  rw[z2]at e2
  simp only[c78,c78o0,ptrA,nilCheck_ptr,fa104_0,u1,ct,ln,Qa,Qb,Qc,Qd,Qe,Qf,Qg,Qh,Qi,Qj,Qk,Ql,Qm,Qn,true_and,and_true,Qo,Qp,Qq,Qr,Qs,Qt,Qu,Qv,Qw,Qx,Qy,Qz,Ra,Rb,Rc,Rd,Re,Rf,Rg,Rh,Ri,Rj,Rk,Rl,Rm,Ya,Yb,Yc,Rn,Ro,Rp,Yd,Ye,Rq,Rs,Rt,Ru,Rv,Rw,Rx]
  refine WC.loop' ?_
  generalize hW:WC E none (CCode.loop c78l5) _=W
  simp only[c78l5,c78o1,hd0,c78o2,i0,g0,Qa,Qb,Qc,Qd,Qe,Qf,Qg,Qh,Qi,Qj,Qk,Ql,Qm,Qn,true_and,and_true,Qo,Qp,Qq,Qr,Qs,Qt,Qu,Qv,Qw,Qx,Qy,Qz,Ra,Rb,Rc,Rd,Re,Rf,Rg,Rh,Ri,Rj,Rk,Rl,Rm,Ya,Yb,Yc,Rn,Ro,Rp,Yd,Ye,Rq,Rs,Rt,Ru,Rv,Rw,Rx]
  refine watch_o3 hE h (by rw[hw];exact VL.place V0) (by have:=V0.2;omega) (Tot.short (by omega)) c _ _ _ _ ?_
  intro s1 ow1 k1 k2
  have g1:=(cb.step k2 hx).get (t:=3) ag3 (k:=1) (u:=iv y1) rfl
  simp only[c78o4,e1,Qa,Qb,Qc,Qd,Qe,Qf,Qg,Qh,Qi,Qj,Qk,Ql,Qm,Qn,true_and,and_true,Qo,Qp,Qq,Qr,Qs,Qt,Qu,Qv,Qw,Qx,Qy,Qz,Ra,Rb,Rc,Rd,Re,Rf,Rg,Rh,Ri,Rj,Rk,Rl,Rm,Ya,Yb,Yc,Rn,Ro,Rp,Yd,Ye,Rq,Rs,Rt,Ru,Rv,Rw,Rx]
  rw[← hW]
  refine WC.loop' ?_
  generalize hW:WC E none (CCode.loop c78l5) _=W
  simp only[c78l5,c78o1,hd1,c78o2,i1,g1,Qa,Qb,Qc,Qd,Qe,Qf,Qg,Qh,Qi,Qj,Qk,Ql,Qm,Qn,true_and,and_true,Qo,Qp,Qq,Qr,Qs,Qt,Qu,Qv,Qw,Qx,Qy,Qz,Ra,Rb,Rc,Rd,Re,Rf,Rg,Rh,Ri,Rj,Rk,Rl,Rm,Ya,Yb,Yc,Rn,Ro,Rp,Yd,Ye,Rq,Rs,Rt,Ru,Rv,Rw,Rx]
  have hT:=Tot.put v.watches (place y0) c
  refine watch_o3 hE k1 (by show _<(wPut _ _ _).length;rw[wPut_len,hw];exact VL.place V1) (by have:=V1.2;omega) (Tot.short (by show Tot (wPut _ _ _)≤_;omega)) c _ _ _ _ ?_
  intro s2 ow2 k3 k4
  simp only[c78o4,e2,Qa,Qb,Qc,Qd,Qe,Qf,Qg,Qh,Qi,Qj,Qk,Ql,Qm,Qn,true_and,and_true,Qo,Qp,Qq,Qr,Qs,Qt,Qu,Qv,Qw,Qx,Qy,Qz,Ra,Rb,Rc,Rd,Re,Rf,Rg,Rh,Ri,Rj,Rk,Rl,Rm,Ya,Yb,Yc,Rn,Ro,Rp,Yd,Ye,Rq,Rs,Rt,Ru,Rv,Rw,Rx]
  rw[← hW]
  refine WC.loop' ?_
  simp only[c78l5,c78o1,hd2,Qa,Qb,Qc,Qd,Qe,Qf,Qg,Qh,Qi,Qj,Qk,Ql,Qm,Qn,true_and,and_true,Qo,Qp,Qq,Qr,Qs,Qt,Qu,Qv,Qw,Qx,Qy,Qz,Ra,Rb,Rc,Rd,Re,Rf,Rg,Rh,Ri,Rj,Rk,Rl,Rm,Ya,Yb,Yc,Rn,Ro,Rp,Yd,Ye,Rq,Rs,Rt,Ru,Rv,Rw,Rx]
  exact⟨ow2,k3,k2.trans k4⟩
theorem vars_ok{E:Env}(hE:Good E){ow:Ow}{s:ASt}{p:Nat}{x:Sf}{v:Sv}(h:SAt ow s p x v){n:Nat}(hn:n<100000000)(hv:v.value.length=n+1):WF E 47 [ptrA p] (fun r s'=>r=iv (n:Int)∧s=s') s:=by
  have ln:∀s,lenA Try.prog s 23 x.val=some (iv ((n+1:Nat):Int)):=fun s=>by
    have:=h.value.len Try.underlying23 s
    rw[List.length_map,hv]at this
    exact this
  have e:=bin_sub Try.prog 3 ((n+1:Nat):Int) 1 ⟨by omega,by omega⟩
  have hc:(((n+1:Nat):Int) - 1)=(n:Int):=by omega
  have q:=eq_ptr44 p
  simp only[ptrA]at q
  refine hE.go comp47 (by decide) rfl ?_
  simp only[c47,c47o0,c47o1,c47o3,ptrA,q,nilCheck_ptr,fa91_2,h.ld_val,ln,e,hc,Qa,Qb,Qc,Qd,Qe,Qf,Qg,Qh,Qi,Qj,Qk,Ql,Qm,Qn,true_and,and_true,Qo,Qp,Qq,Qr,Qs,Qt,Qu,Qv,Qw,Qx,Qy,Qz,Ra,Rb,Rc,Rd,Re,Rf,Rg,Rh,Ri,Rj,Rk,Rl,Rm,Ya,Yb,Yc,Rn,Ro,Rp,Yd,Ye,Rq,Rs,Rt,Ru,Rv,Rw,Rx]
theorem bin_quo2(a:Int):∃c,binA Try.prog .quo 3 (iv a) (iv 2)=some (iv c):=by
  refine⟨IntKind.i64.wrap (a.tdiv 2),?_⟩
  show guardB (sameKind .i64 .i64) ((runP Try.prog (Op.intDiv .quo .i64 a 2)).bind ofValue)=_
  have hk:sameKind .i64 .i64=true:=rfl
  rw[hk]
  unfold Op.intDiv
  rw[if_neg (by decide)]
  rfl
theorem bin_addw(a b:Int):binA Try.prog .add 3 (iv a) (iv b)=some (iv (wrapA .i64 (a+b))):=rfl
def heatV(v:Sv)(h:List Int):Sv:={ v with heat:=h }
theorem cool_loop{E:Env}(hE:Good E){p N:Nat}(hN:N<1000000000){ow:Ow}{s0:ASt}{x:Sf}{v0:Sv}{Q:ARes→Prop}(hq:∀s' h' y1 y3 y4,SAt ow s' p x (heatV v0 h')→h'.length=N→Step (mineB p) ow s0 ow s'→Q ⟨.exit 0,[AV.ptr (some (p,0)),y1,iv (N:Int),y3,y4],[],s'⟩):
    ∀ (m k:Nat) (s:ASt) (h:List Int) (x1 x4:AV),N - k=m→k≤N→SAt ow s p x (heatV v0 h)→h.length=N→Step (mineB p) ow s0 ow s→WC E none (.loop c68l5) Q [AV.ptr (some (p,0)),x1,iv (N:Int),iv (k:Int),x4] [] s:=by
  intro m
  induction m with
  | zero =>
    intro k s h x1 x4 hm hk hs hl hst
    have hk:k=N:=by omega
    subst hk
    refine WC.loop' ?_
    simp only[c68l5,c68o1,Int.lt_irrefl,decide_false,Qa,Qb,Qc,Qd,Qe,Qf,Qg,Qh,Qi,Qj,Qk,Ql,Qm,Qn,true_and,and_true,Qo,Qp,Qq,Qr,Qs,Qt,Qu,Qv,Qw,Qx,Qy,Qz,Ra,Rb,Rc,Rd,Re,Rf,Rg,Rh,Ri,Rj,Rk,Rl,Rm,Ya,Yb,Yc,Rn,Ro,Rp,Yd,Ye,Rq,Rs,Rt,Ru,Rv,Rw,Rx]
    exact hq s h _ _ _ hs hl hst
  | succ m ih =>
    intro k s h x1 x4 hm hk hs hl hst
    have hlt:k<N:=by omega
    have hd:decide ((k:Int)<(N:Int))=true:=decide_eq_true (by omega)
    have e3:=bin_add Try.prog 3 (k:Int) 1 ⟨by omega,by omega⟩
    have hcast:((k:Int)+1)=((k+1:Nat):Int):=by omega
    have hg:=getD_get (d:=(0:Int)) (show k<h.length by omega)
    have i1:=hs.heat.addr Try.underlying23 sz3 (k:=k) (by rw[List.length_map];show k<h.length;omega)
    have i2:=hs.heat.get (t:=3) ag3 (k:=k) (get_ivs hg)
    obtain⟨c,hc⟩:=bin_quo2 (h.getD k 0)
    obtain⟨s1,a1,a2,a3,a4⟩:=hs.put_heat (k:=k) (by show k<h.length;omega) c
    refine WC.loop' ?_
    generalize hW:WC E none (CCode.loop c68l5) Q=W
    simp only[c68l5,c68o1,hd,c68o2,c68o3,nilCheck_ptr,fa91_5,hs.ld_heat,i1,i2,hc,on2,a1,withV,c68o4,e3,hcast,Qa,Qb,Qc,Qd,Qe,Qf,Qg,Qh,Qi,Qj,Qk,Ql,Qm,Qn,true_and,and_true,Qo,Qp,Qq,Qr,Qs,Qt,Qu,Qv,Qw,Qx,Qy,Qz,Ra,Rb,Rc,Rd,Re,Rf,Rg,Rh,Ri,Rj,Rk,Rl,Rm,Ya,Yb,Yc,Rn,Ro,Rp,Yd,Ye,Rq,Rs,Rt,Ru,Rv,Rw,Rx]
    rw[← hW]
    exact ih (k+1) s1 (h.set k c) _ _ (by omega) (by omega) a2 (by rw[List.length_set];exact hl) (hst.trans a3)
theorem cool_ok{E:Env}(hE:Good E){ow:Ow}{s:ASt}{p:Nat}{x:Sf}{v:Sv}(h:SAt ow s p x v)(hl:v.heat.length<1000000000):
    WF E 68 [ptrA p] (fun _ s'=>∃h',SAt ow s' p x (heatV v h')∧h'.length=v.heat.length∧Step (mineB p) ow s ow s') s:=by
  have ln:∀s,lenA Try.prog s 23 x.heat=some (iv (v.heat.length:Int)):=fun s=>by
    have:=h.heat.len Try.underlying23 s
    rw[List.length_map]at this
    exact this
  refine hE.go comp68 (by decide) rfl ?_
  simp only[c68,c68o0,ptrA,nilCheck_ptr,fa91_5,h.ld_heat,ln,Qa,Qb,Qc,Qd,Qe,Qf,Qg,Qh,Qi,Qj,Qk,Ql,Qm,Qn,true_and,and_true,Qo,Qp,Qq,Qr,Qs,Qt,Qu,Qv,Qw,Qx,Qy,Qz,Ra,Rb,Rc,Rd,Re,Rf,Rg,Rh,Ri,Rj,Rk,Rl,Rm,Ya,Yb,Yc,Rn,Ro,Rp,Yd,Ye,Rq,Rs,Rt,Ru,Rv,Rw,Rx]
  refine cool_loop hE hl (s0:=s) (v0:=v) ?_ _ 0 s v.heat _ _ rfl (Nat.zero_le _) h rfl (Step.refl _ _ _)
  intro s' h' y1 y3 y4 k1 k2 k3
  simp only[if_true,Qa,Qb,Qc,Qd,Qe,Qf,Qg,Qh,Qi,Qj,Qk,Ql,Qm,Qn,true_and,and_true,Qo,Qp,Qq,Qr,Qs,Qt,Qu,Qv,Qw,Qx,Qy,Qz,Ra,Rb,Rc,Rd,Re,Rf,Rg,Rh,Ri,Rj,Rk,Rl,Rm,Ya,Yb,Yc,Rn,Ro,Rp,Yd,Ye,Rq,Rs,Rt,Ru,Rv,Rw,Rx]
  exact⟨h',k1,k2,k3⟩
theorem hotter_ok{E:Env}(hE:Good E){ow:Ow}{s:ASt}{p:Nat}{x:Sf}{v:Sv}(h:SAt ow s p x v){bb sb:Nat}{best k:Nat}(h1:Box1 s sb (ptrA p))(h2:Box1 s bb (iv (best:Int)))(hb:best<v.heat.length)(hk:k<v.heat.length):
    WF E 99 [iv (k:Int),.ptr (some (bb,0)),.ptr (some (sb,0))] (fun r s'=>(∃t:Bool,r=.bool t∧(best=0→t=true))∧s=s') s:=by
  have hg:=getD_get (d:=(0:Int)) hk
  have hgb:=getD_get (d:=(0:Int)) hb
  have i1:=h.heat.addr Try.underlying23 sz3 (k:=k) (by rw[List.length_map];exact hk)
  have i2:=h.heat.get (t:=3) ag3 (k:=k) (get_ivs hg)
  have j1:=h.heat.addr Try.underlying23 sz3 (k:=best) (by rw[List.length_map];exact hb)
  have j2:=h.heat.get (t:=3) ag3 (k:=best) (get_ivs hgb)
  have l1:=h1.load ag44
  simp only[ptrA]at l1
  refine hE.go comp99 (by decide) rfl ?_
  by_cases he:best=0
  · have hd:decide ((best:Int)=0)=true:=decide_eq_true (by omega)
    simp only[c99,c99o0,c99o1,h2.load ag3,hd,Qa,Qb,Qc,Qd,Qe,Qf,Qg,Qh,Qi,Qj,Qk,Ql,Qm,Qn,true_and,and_true,Qo,Qp,Qq,Qr,Qs,Qt,Qu,Qv,Qw,Qx,Qy,Qz,Ra,Rb,Rc,Rd,Re,Rf,Rg,Rh,Ri,Rj,Rk,Rl,Rm,Ya,Yb,Yc,Rn,Ro,Rp,Yd,Ye,Rq,Rs,Rt,Ru,Rv,Rw,Rx]
    exact⟨true,rfl,fun _=>rfl⟩
  · have hd:decide ((best:Int)=0)=false:=decide_eq_false (by omega)
    simp only[c99,c99o0,c99o1,h2.load ag3,hd,l1,nilCheck_ptr,fa91_5,h.ld_heat,i1,i2,j1,j2,Qa,Qb,Qc,Qd,Qe,Qf,Qg,Qh,Qi,Qj,Qk,Ql,Qm,Qn,true_and,and_true,Qo,Qp,Qq,Qr,Qs,Qt,Qu,Qv,Qw,Qx,Qy,Qz,Ra,Rb,Rc,Rd,Re,Rf,Rg,Rh,Ri,Rj,Rk,Rl,Rm,Ya,Yb,Yc,Rn,Ro,Rp,Yd,Ye,Rq,Rs,Rt,Ru,Rv,Rw,Rx]
    exact⟨_,rfl,fun q=>absurd q he⟩
theorem alloc3s:allocA Try.prog 3=some (mkRow 3 0 [.int .i64 0],.ptr):=by simp[allocA,zr3,AV.cells]
def NextR(val:List Int)(k:Nat)(b:Nat):Prop:=(b=0∧∀j,1≤j→j<k→val.getD j 0≠0)∨(1≤b∧b<val.length∧val.getD b 0=0)
theorem next_loop {E : Env} (hE : Good E) {p n : Nat} (hn : n < 100000000) {ow : Ow} {s0 : ASt} {x : Sf} {v : Sv} (h : SAt ow s0 p x v) (hval : v.value.length = n + 1) (hheat : v.heat.length = n + 1) {sb bb : Nat} (hsb : s0.next ≤ sb) (hbb : s0.next ≤ bb) (hne : bb ≠ sb) {Q : ARes → Prop}
    (hq:∀s' (b:Nat) y2 y5 y6 y7,Old s0.next s0 s'→Box1 s' bb (iv (b:Int))→NextR v.value (n+1) b→Q ⟨.exit 0,[AV.ptr (some (p,0)),.ptr (some (sb,0)),y2,.ptr (some (bb,0)),.func 99 [] [.ptr (some (bb,0)),.ptr (some (sb,0))],y5,y6,y7],[],s'⟩):
    ∀ (m k:Nat) (s:ASt) (b:Nat) (x2 x6 x7:AV),n+1 - k=m→1≤k→k≤n+1→Old s0.next s0 s→Box1 s sb (ptrA p)→Box1 s bb (iv (b:Int))→NextR v.value k b →
      WC E none (.loop c70l8) Q [AV.ptr (some (p,0)),.ptr (some (sb,0)),x2,.ptr (some (bb,0)),.func 99 [] [.ptr (some (bb,0)),.ptr (some (sb,0))],iv (k:Int),x6,x7] [] s:=by
  intro m
  induction m with
  | zero =>
    intro k s b x2 x6 x7 hm hk1 hk ho b1 b2 hr
    have hk:k=n+1:=by omega
    subst hk
    have h':=h.keep (Step.old (m:=fun _=>False) ho (0,0,0)) (fun _ q=>q.elim)
    have l1:=b1.load ag44
    simp only[ptrA]at l1
    have ln:∀s,lenA Try.prog s 23 x.val=some (iv ((n+1:Nat):Int)):=fun s=>by
      have:=h.value.len Try.underlying23 s
      rw[List.length_map,hval]at this
      exact this
    refine WC.loop' ?_
    simp only[c70l8,c70o4,l1,nilCheck_ptr,fa91_2,h'.ld_val,ln,Int.lt_irrefl,decide_false,Qa,Qb,Qc,Qd,Qe,Qf,Qg,Qh,Qi,Qj,Qk,Ql,Qm,Qn,true_and,and_true,Qo,Qp,Qq,Qr,Qs,Qt,Qu,Qv,Qw,Qx,Qy,Qz,Ra,Rb,Rc,Rd,Re,Rf,Rg,Rh,Ri,Rj,Rk,Rl,Rm,Ya,Yb,Yc,Rn,Ro,Rp,Yd,Ye,Rq,Rs,Rt,Ru,Rv,Rw,Rx]
    exact hq s b _ _ _ _ ho b2 hr
  | succ m ih =>
    intro k s b x2 x6 x7 hm hk1 hk ho b1 b2 hr
    have hlt:k<n+1:=by omega
    have h':=h.keep (Step.old (m:=fun _=>False) ho (0,0,0)) (fun _ q=>q.elim)
    have l1:=b1.load ag44
    simp only[ptrA]at l1
    have ln:∀s,lenA Try.prog s 23 x.val=some (iv ((n+1:Nat):Int)):=fun s=>by
      have:=h.value.len Try.underlying23 s
      rw[List.length_map,hval]at this
      exact this
    have hd:decide ((k:Int)<((n+1:Nat):Int))=true:=decide_eq_true (by omega)
    have e3:=bin_add Try.prog 3 (k:Int) 1 ⟨by omega,by omega⟩
    have hcast:((k:Int)+1)=((k+1:Nat):Int):=by omega
    have hg:=getD_get (d:=(0:Int)) (show k<v.value.length by omega)
    have i1:=h'.value.addr Try.underlying23 sz3 (k:=k) (by rw[List.length_map];omega)
    have i2:=h'.value.get (t:=3) ag3 (k:=k) (get_ivs hg)
    have hbl:b<v.heat.length:=by rcases hr with⟨q,_⟩ | ⟨_,q,_⟩<;>omega
    refine WC.loop' ?_
    generalize hW:WC E none (CCode.loop c70l8) Q=W
    by_cases h0:v.value.getD k 0=0
    · have hd0:decide (v.value.getD k 0=0)=true:=decide_eq_true h0
      simp only[c70l8,c70o4,l1,nilCheck_ptr,fa91_2,h'.ld_val,ln,hd,c70o5,i1,i2,hd0,Qa,Qb,Qc,Qd,Qe,Qf,Qg,Qh,Qi,Qj,Qk,Ql,Qm,Qn,true_and,and_true,Qo,Qp,Qq,Qr,Qs,Qt,Qu,Qv,Qw,Qx,Qy,Qz,Ra,Rb,Rc,Rd,Re,Rf,Rg,Rh,Ri,Rj,Rk,Rl,Rm,Ya,Yb,Yc,Rn,Ro,Rp,Yd,Ye,Rq,Rs,Rt,Ru,Rv,Rw,Rx]
      refine(hotter_ok hE h' b1 b2 hbl (k:=k) (by omega)).mono ?_
      rintro _ _ ⟨⟨t,rfl,ht⟩,rfl⟩
      cases t with
      | true =>
        obtain⟨s1,a1,a2,a3,a4⟩:=b2.store (d:=iv (k:Int)) sz3 rfl rfl
        simp only[c70o6,on2,a1,withV,c70o7,e3,hcast,Qa,Qb,Qc,Qd,Qe,Qf,Qg,Qh,Qi,Qj,Qk,Ql,Qm,Qn,true_and,and_true,Qo,Qp,Qq,Qr,Qs,Qt,Qu,Qv,Qw,Qx,Qy,Qz,Ra,Rb,Rc,Rd,Re,Rf,Rg,Rh,Ri,Rj,Rk,Rl,Rm,Ya,Yb,Yc,Rn,Ro,Rp,Yd,Ye,Rq,Rs,Rt,Ru,Rv,Rw,Rx]
        rw[← hW]
        refine ih (k+1) s1 k _ _ _ (by omega) (by omega) (by omega) ⟨by have:=ho.1;omega,fun y hy=>?_⟩ (b1.keep (a4 sb (fun e=>hne e.symm))) a2 (.inr ⟨hk1,by omega,h0⟩)
        rw[a4 y (by omega)]
        exact ho.2 y hy
      | false =>
        simp only[c70o7,e3,hcast,Qa,Qb,Qc,Qd,Qe,Qf,Qg,Qh,Qi,Qj,Qk,Ql,Qm,Qn,true_and,and_true,Qo,Qp,Qq,Qr,Qs,Qt,Qu,Qv,Qw,Qx,Qy,Qz,Ra,Rb,Rc,Rd,Re,Rf,Rg,Rh,Ri,Rj,Rk,Rl,Rm,Ya,Yb,Yc,Rn,Ro,Rp,Yd,Ye,Rq,Rs,Rt,Ru,Rv,Rw,Rx]
        rw[← hW]
        have hb0:b≠0:=fun e=>by have:=ht e;cases this
        refine ih (k+1) s b _ _ _ (by omega) (by omega) (by omega) ho b1 b2 ?_
        rcases hr with⟨q,_⟩ | q
        · exact absurd q hb0
        · exact .inr q
    · have hd0:decide (v.value.getD k 0=0)=false:=decide_eq_false h0
      simp only[c70l8,c70o4,l1,nilCheck_ptr,fa91_2,h'.ld_val,ln,hd,c70o5,i1,i2,hd0,c70o7,e3,hcast,Qa,Qb,Qc,Qd,Qe,Qf,Qg,Qh,Qi,Qj,Qk,Ql,Qm,Qn,true_and,and_true,Qo,Qp,Qq,Qr,Qs,Qt,Qu,Qv,Qw,Qx,Qy,Qz,Ra,Rb,Rc,Rd,Re,Rf,Rg,Rh,Ri,Rj,Rk,Rl,Rm,Ya,Yb,Yc,Rn,Ro,Rp,Yd,Ye,Rq,Rs,Rt,Ru,Rv,Rw,Rx]
      rw[← hW]
      refine ih (k+1) s b _ _ _ (by omega) (by omega) (by omega) ho b1 b2 ?_
      rcases hr with⟨q,q'⟩ | q
      · refine .inl ⟨q,fun j hj1 hj2=>?_⟩
        by_cases e:j=k
        · rw[e];exact h0
        · exact q' j hj1 (by omega)
      · exact .inr q
theorem next_ok{E:Env}(hE:Good E){ow:Ow}{s:ASt}{p:Nat}{x:Sf}{v:Sv}(h:SAt ow s p x v){n:Nat}(hn:n<100000000)(hval:v.value.length=n+1)(hheat:v.heat.length=n+1):
    WF E 70 [ptrA p] (fun r s'=>∃ (b:Nat) (ow':Ow),r=iv (b:Int)∧NextR v.value (n+1) b∧SAt ow' s' p x v∧Step (mineB p) ow s ow' s') s:=by
  have hptr:∀i,Made.val i .ptr=.ptr (some (i,0)):=fun _=>rfl
  have hbox:boxA 44 (AV.ptr (some (p,0)))=some (mkRow 44 0 [ptrA p],.ptr):=by simp[boxA,ptrA,AV.cells]
  refine hE.go comp70 (by decide) rfl ?_
  generalize hs1:newObj s (mkRow 44 0 [ptrA p])=s1
  have n1:s1.next=s.next+1:=by rw[← hs1];rfl
  have o1:Old s.next s s1:=by rw[← hs1];exact Old.new s _
  have b1:Box1 s1 s.next (ptrA p):=by rw[← hs1];exact Box1.new
  generalize hs2:newObj s1 (mkRow 3 0 [.int .i64 0])=s2
  have n2:s2.next=s.next+2:=by rw[← hs2];show s1.next+1=_;omega
  have o2:Old (s.next+1) s1 s2:=by rw[← hs2,← n1];exact Old.new s1 _
  have b2:Box1 s2 (s.next+1) (.int .i64 0):=by rw[← hs2,← n1];exact Box1.new
  obtain⟨s3,a1,a2,a3,a4⟩:=b2.store (d:=iv 0) sz3 rfl rfl
  have b1':Box1 s3 s.next (ptrA p):=(b1.keep (o2.2 _ (by omega))).keep (a4 _ (by omega))
  have o3:Old s.next s s3:=(o1.trans (o2.mono (by omega))).trans ⟨by omega,fun y hy=>a4 y (by omega)⟩
  simp only[ptrA]at hs1 hbox
  simp only[c70,c70o0,c70o1,c70o2,c70o3,ptrA,hbox,hs1,hptr,alloc3s,hs2,n1,on2,a1,withV,List.take_zero,List.drop_zero,Qa,Qb,Qc,Qd,Qe,Qf,Qg,Qh,Qi,Qj,Qk,Ql,Qm,Qn,true_and,and_true,Qo,Qp,Qq,Qr,Qs,Qt,Qu,Qv,Qw,Qx,Qy,Qz,Ra,Rb,Rc,Rd,Re,Rf,Rg,Rh,Ri,Rj,Rk,Rl,Rm,Ya,Yb,Yc,Rn,Ro,Rp,Yd,Ye,Rq,Rs,Rt,Ru,Rv,Rw,Rx]
  refine next_loop hE hn h hval hheat (sb:=s.next) (bb:=s.next+1) (by omega) (by omega) (by omega) ?_ n 1 s3 0 _ _ _ (by omega) (by omega) (by omega) o3 b1' a2 (.inl ⟨rfl,fun j h1 h2=>absurd h1 (by omega)⟩)
  intro s' b y2 y5 y6 y7 k1 k2 k3
  simp only[if_true,c70o9,k2.load ag3,Qa,Qb,Qc,Qd,Qe,Qf,Qg,Qh,Qi,Qj,Qk,Ql,Qm,Qn,true_and,and_true,Qo,Qp,Qq,Qr,Qs,Qt,Qu,Qv,Qw,Qx,Qy,Qz,Ra,Rb,Rc,Rd,Re,Rf,Rg,Rh,Ri,Rj,Rk,Rl,Rm,Ya,Yb,Yc,Rn,Ro,Rp,Yd,Ye,Rq,Rs,Rt,Ru,Rv,Rw,Rx]
  exact⟨b,_,rfl,k3,h.keep (Step.old (m:=fun _=>False) k1 (0,0,0)) (fun _ q=>q.elim),Step.old k1 _⟩
theorem SAt.keep16{m:Tag→Prop}{ow ow':Ow}{s s':ASt}{p:Nat}{x:Sf}{v:Sv}(h:SAt ow s p x v)(k:Step m ow s ow' s')(hm:∀a i,a<16→¬ m (p,a,i)):SAt ow' s' p x v:=by
  have hn:=k.next
  have hl:=h.lt
  exact { box:=h.box.step k h.tag h.lt (hm 0 0 (by decide)),tag:=by rw[k.tags p h.lt (by rw[h.tag];exact hm 0 0 (by decide))];exact h.tag,lt:=by omega,w:=h.w.step k (hm 1 0 (by decide)) (fun j=>hm 2 j (by decide)),learned:=h.learned.step k (hm 3 0 (by decide)),value:=h.value.step k (hm 4 0 (by decide)),level:=h.level.step k (hm 5 0 (by decide)),why:=h.why.step k (hm 6 0 (by decide)),heat:=h.heat.step k (hm 7 0 (by decide)),phase:=h.phase.step k (hm 8 0 (by decide)),trail:=h.trail.step k (hm 9 0 (by decide)),limits:=h.limits.step k (hm 10 0 (by decide)),model:=h.model.step k (hm 11 0 (by decide)),trace:=h.trace.step k (hm 12 0 (by decide)) (hm 13 0 (by decide)),cls:=fun c l hc=>(h.cls c l hc).step k (hm 14 c (by decide)) (hm 15 c (by decide)) }
theorem SAt.push_trace {ow : Ow} {s : ASt} {p : Nat} {x : Sf} {v : Sv} (h : SAt ow s p x v) (hT : v.trace.length ≤ 1000000) (d : Bool) {u : AV} {L : List Int} (hu : SliceAt s.next s u (ivs L)) (hslot : ∀ j, slot u = some j → ow j = (p, 13, 0) ∧ j < s.next) :
    ∃t' s' ow',appendA Try.prog (newObj s (mkRow 27 2 [.bool d,u])) [33,33] [x.trc,.slice (some (s.next,0)) 1 (some 1)]=some (t',s')∧BoxN s' p (svCells x v)∧t'.isCell=true∧t'.cells=[t'] ∧
      ∀s'' y,BoxN s'' p (svCells { x with trc:=t' } { v with broken:=y,trace:=v.trace++[(d,L)] })→s''.next=s'.next→(∀j,j≠p→s''.heap.get j=s'.heap.get j) →
        SAt ow' s'' p { x with trc:=t' } { v with broken:=y,trace:=v.trace++[(d,L)] }∧Step (mineB p) ow s ow' s'':=by
  have c1:=src_one (P:=Try.prog) (e:=27) (s:=newObj s (mkRow 27 2 [.bool d,u])) (n:=1) (cap:=some 1) (sz:=2) 27 2 (by rw[heap_new,if_pos rfl]) rfl
  have hst0:Step (fun _=>False) ow s (ext ow s.next (0,0,0)) (newObj s (mkRow 27 2 [.bool d,u])):=Step.new _ ow s _ _
  have h1:=h.keep hst0 (fun _ q=>q.elim)
  obtain⟨us,O,t1,t2,t3,t4,t5⟩:=h1.trace
  obtain⟨v',s',O',g1,g2,g3,g4,g5,g6,g7⟩:=t1.append (P:=Try.prog) (st:=33) (xt:=33) Try.underlying33 sz27 by27 (by decide) (strx 33 27 Try.underlying33) zero27 c1 rfl (by have:=hu.isCell.1;simp only[allCells,this];rfl) (by omega) (by omega)
  generalize hs1:newObj s (mkRow 27 2 [.bool d,u])=s1 at *
  have n1:s1.next=s.next+1:=by rw[← hs1];rfl
  generalize ho1:ext ow s.next (0,0,0)=ow1 at *
  have hstA:Step (· = (p,12,0)) ow1 s1 (ext ow1 s1.next (p,12,0)) s':=⟨g3,fun j hj _=>ext_lt hj,fun j hj hm=>g5 j hj fun e=>hm (t2 j e)⟩
  have hm:∀a i,a≠12→¬ ((p,a,i):Tag)=(p,12,0):=fun a i ha=>tne ha
  have hlt:=h1.lt
  have hbox:=h1.box.step hstA h1.tag h1.lt (hm 0 0 (by decide))
  have hcell:v'.isCell=true∧v'.cells=[v']:=by
    obtain⟨a,cap,e,_⟩:=g2.cells
    rw[e];exact⟨rfl,rfl⟩
  refine⟨v',s',ext ow1 s1.next (p,12,0),g1,hbox,hcell.1,hcell.2,fun s'' y hb hn hf=>?_⟩
  have htag:(ext ow1 s1.next (p,12,0)) p=(p,0,0):=by rw[ext_lt h1.lt];exact h1.tag
  have hstB:Step (· = (p,0,0)) (ext ow1 s1.next (p,12,0)) s' (ext ow1 s1.next (p,12,0)) s'':=⟨by omega,fun _ _ _=>rfl,fun j _ hm=>hf j fun e=>hm (by rw[e];exact htag)⟩
  have hm0:∀a i,a≠0→¬ ((p,a,i):Tag)=(p,0,0):=fun a i ha=>tne ha
  have hu1:SliceAt s1.next s1 u (ivs L):=(hu.keep fun j hj=>hst0.heap j (hslot j hj).2 (fun q=>q)).mono (by omega)
  have hslot1:∀j,slot u=some j→ow1 j=(p,13,0)∧j<s1.next:=fun j hj=>⟨by rw[hst0.tags j (hslot j hj).2 (fun q=>q)];exact(hslot j hj).1,by have:=(hslot j hj).2;omega⟩
  have htr:TrAt (ext ow1 s1.next (p,12,0)) s' p v' (v.trace++[(d,L)]):=by
    refine⟨us++[.bool d,u],O',by rw[List.length_append];exact g2,fun j hj=>?_,fun j hj=>?_,?_,fun w hw j hj=>?_⟩
    · rcases g6 j hj with q | q
      · rw[ext_lt (t1.lt j q)];exact t2 j q
      · exact ext_ge q
    · rcases g7 j hj with q | q
      · obtain⟨q1,q2⟩:=t3 j q
        exact⟨by rw[ext_lt q2];exact q1,by omega⟩
      · exact⟨ext_ge q,g2.slot_lt j hj⟩
    · refine ((t4.mono g3).keep fun w hw j hj => ?_).snoc ?_
      · obtain⟨q1,q2⟩:=t5 w hw j hj
        exact hstA.heap j q2 (by rw[q1];exact hm 13 0 (by decide))
      · refine(hu1.keep fun j hj=>?_).mono g3
        obtain⟨q1,q2⟩:=hslot1 j hj
        exact hstA.heap j q2 (by rw[q1];exact hm 13 0 (by decide))
    · rcases List.mem_append.1 hw with hw | hw
      · obtain⟨q1,q2⟩:=t5 w hw j hj
        exact⟨by rw[ext_lt q2];exact q1,by omega⟩
      · rcases List.mem_cons.1 hw with rfl | hw
        · cases hj
        · have:w=u:=by simpa using hw
          subst this
          obtain⟨q1,q2⟩:=hslot1 j hj
          exact⟨by rw[ext_lt q2];exact q1,by omega⟩
  have hstepA:Step (mineB p) ow s (ext ow1 s1.next (p,12,0)) s':=(hst0.mono fun _ q=>q.elim).trans (hstA.mono fun t ht=>by rw[ht];exact⟨rfl,by simp,by simp,by simp⟩)
  refine⟨?_,hstepA.trans (hstB.mono fun t ht=>by rw[ht];exact⟨rfl,by simp,by simp,by simp⟩)⟩
  have h:=h1
  have k:True:=trivial
  exact { box:=hb,tag:=htag,lt:=by omega,w:=(h.w.step hstA (hm 1 0 (by decide)) (fun j=>hm 2 j (by decide))).step hstB (hm0 1 0 (by decide)) (fun j=>hm0 2 j (by decide)),learned:=(h.learned.step hstA (hm 3 0 (by decide))).step hstB (hm0 3 0 (by decide)),value:=(h.value.step hstA (hm 4 0 (by decide))).step hstB (hm0 4 0 (by decide)),level:=(h.level.step hstA (hm 5 0 (by decide))).step hstB (hm0 5 0 (by decide)),why:=(h.why.step hstA (hm 6 0 (by decide))).step hstB (hm0 6 0 (by decide)),heat:=(h.heat.step hstA (hm 7 0 (by decide))).step hstB (hm0 7 0 (by decide)),phase:=(h.phase.step hstA (hm 8 0 (by decide))).step hstB (hm0 8 0 (by decide)),trail:=(h.trail.step hstA (hm 9 0 (by decide))).step hstB (hm0 9 0 (by decide)),limits:=(h.limits.step hstA (hm 10 0 (by decide))).step hstB (hm0 10 0 (by decide)),model:=(h.model.step hstA (hm 11 0 (by decide))).step hstB (hm0 11 0 (by decide)),trace:=htr.step hstB (hm0 12 0 (by decide)) (hm0 13 0 (by decide)),cls:=fun c l hc=>((h.cls c l hc).step hstA (hm 14 c (by decide)) (hm 15 c (by decide))).step hstB (hm0 14 c (by decide)) (hm0 15 c (by decide)) }
theorem cells_agg(l:List AV):(AV.agg l).cells=l:=rfl
def failV(v:Sv):Sv:=if v.broken=true then v else { v with broken:=true,trace:=v.trace++[(false,[])] }
theorem bld27_none:buildA Try.prog 27 (zipIdx [] [])=some (.agg [.bool false,.slice none 0 (some 0)]):=by
  simp[buildA,zr27,Try.underlying27,fieldSizes,sz4,sz23,zipIdx,fillA,cells_agg,guardB]
theorem bld27_lits{u:AV}(hu:u.cells=[u]):buildA Try.prog 27 (zipIdx [1] [u])=some (.agg [.bool false,u]):=by
  simp[buildA,zr27,Try.underlying27,fieldSizes,sz4,sz23,zipIdx,fillA,cells_agg,guardB,hu]
  rfl
theorem bld104{u:AV}(hu:u.cells=[u]):buildA Try.prog 104 (zipIdx [0,1] [u,.bool true])=some (.agg [u,.bool true,.bool false]):=by
  simp[buildA,zr104,Try.underlying104,fieldSizes,sz4,sz23,zipIdx,fillA,cells_agg,guardB,hu]
  rfl
theorem bld104_one{u:AV}(hu:u.cells=[u]):buildA Try.prog 104 (zipIdx [0] [u])=some (.agg [u,.bool false,.bool false]):=by
  simp[buildA,zr104,Try.underlying104,fieldSizes,sz4,sz23,zipIdx,fillA,cells_agg,guardB,hu]
  rfl
theorem box104{u:AV}(hu:u.cells=[u])(b c:Bool):boxA 104 (.agg [u,.bool b,.bool c])=some (mkRow 104 0 [u,.bool b,.bool c],.ptr):=by
  simp[boxA,AV.cells,hu]
theorem fail_ok{E:Env}(hE:Good E){ow:Ow}{s:ASt}{p:Nat}{x:Sf}{v:Sv}(h:SAt ow s p x v)(hT:v.trace.length≤1000000):
    WF E 65 [ptrA p] (fun _ s'=>∃ow' x',SAt ow' s' p x' (failV v)∧Step (mineB p) ow s ow' s'∧x'.w=x.w) s:=by
  refine hE.go comp65 (by decide) rfl ?_
  cases hb:v.broken with
  | true =>
    have hf:failV v=v:=by unfold failV;rw[if_pos hb]
    have ld:=h.ld_broken
    rw[hb]at ld
    simp only[c65,c65o0,ptrA,nilCheck_ptr,fa91_10,ld,Qa,Qb,Qc,Qd,Qe,Qf,Qg,Qh,Qi,Qj,Qk,Ql,Qm,Qn,true_and,and_true,Qo,Qp,Qq,Qr,Qs,Qt,Qu,Qv,Qw,Qx,Qy,Qz,Ra,Rb,Rc,Rd,Re,Rf,Rg,Rh,Ri,Rj,Rk,Rl,Rm,Ya,Yb,Yc,Rn,Ro,Rp,Yd,Ye,Rq,Rs,Rt,Ru,Rv,Rw,Rx]
    rw[hf]
    exact⟨ow,x,h,Step.refl _ _ _,rfl⟩
  | false =>
    have hf:failV v={ v with broken:=true,trace:=v.trace++[(false,[])] }:=by unfold failV;rw[if_neg (by rw[hb];decide)]
    have ld:=h.ld_broken
    rw[hb]at ld
    have hms:∀ (m:Nat) (i:Nat),Made.val i (.slice m)=.slice (some (i,0)) m (some m):=fun _ _=>rfl
    obtain⟨t',s1,ow',a1,a2,a3,a4,a5⟩:=h.push_trace hT false (u:=.slice none 0 (some 0)) (L:=[]) ⟨none,some 0,rfl,CellsAt.nil⟩ (fun j hj=>by cases hj)
    obtain⟨s2,b1,b2,b3,b4⟩:=a2.store (k:=10) (d:=.bool true) (by simp) (t:=4) sz4 rfl rfl
    obtain⟨s3,d1,d2,d3,d4⟩:=b2.store (k:=12) (d:=t') (by simp) (t:=33) sz33 a3 a4
    obtain⟨k1,k2⟩:=a5 s3 true d2 (by omega) (fun j hj=>(d4 j hj).trans (b4 j hj))
    simp only[c65,c65o0,c65o1,ptrA,nilCheck_ptr,fa91_10,fa91_12,ld,h.ld_trc,bld27_none,bld_line,hms,a1,on2,b1,d1,withV,Qa,Qb,Qc,Qd,Qe,Qf,Qg,Qh,Qi,Qj,Qk,Ql,Qm,Qn,true_and,and_true,Qo,Qp,Qq,Qr,Qs,Qt,Qu,Qv,Qw,Qx,Qy,Qz,Ra,Rb,Rc,Rd,Re,Rf,Rg,Rh,Ri,Rj,Rk,Rl,Rm,Ya,Yb,Yc,Rn,Ro,Rp,Yd,Ye,Rq,Rs,Rt,Ru,Rv,Rw,Rx]
    rw[hf]
    exact⟨ow',_,k1,k2,rfl⟩
theorem drop_room{E:Env}(hE:Good E){ow:Ow}{s:ASt}{p:Nat}{x:Sf}{v:Sv}(h:SAt ow s p x v)(hr:(v.learned.length:Int)<v.room):
    WF E 69 [ptrA p] (fun _ s'=>∃ow',SAt ow' s' p x v∧Step (mineB p) ow s ow' s') s:=by
  have hptr:∀i,Made.val i .ptr=.ptr (some (i,0)):=fun _=>rfl
  have hbox:boxA 44 (AV.ptr (some (p,0)))=some (mkRow 44 0 [ptrA p],.ptr):=by simp[boxA,ptrA,AV.cells]
  have hst:Step (fun _=>False) ow s (ext ow s.next (0,0,0)) (newObj s (mkRow 44 0 [ptrA p])):=Step.new _ ow s _ _
  have h':=h.keep hst (fun _ q=>q.elim)
  have b1:Box1 (newObj s (mkRow 44 0 [ptrA p])) s.next (ptrA p):=Box1.new
  have l1:=b1.load ag44
  have ln:∀s,lenA Try.prog s 89 x.l=some (iv (v.learned.length:Int)):=fun s=>by
    have:=h.learned.len Try.underlying89 s
    rw[List.length_map]at this
    exact this
  have hd:=decide_eq_true hr
  have ld1:=h'.ld_l
  have ld2:=h'.ld_room
  refine hE.go comp69 (by decide) rfl ?_
  simp only[ptrA]at hbox l1 ld1 ld2
  simp only[c69,c69o0,c69o1,ptrA,hbox,hptr,l1,nilCheck_ptr,fa91_1,fa91_14,ld1,ld2,ln,hd,Qa,Qb,Qc,Qd,Qe,Qf,Qg,Qh,Qi,Qj,Qk,Ql,Qm,Qn,true_and,and_true,Qo,Qp,Qq,Qr,Qs,Qt,Qu,Qv,Qw,Qx,Qy,Qz,Ra,Rb,Rc,Rd,Re,Rf,Rg,Rh,Ri,Rj,Rk,Rl,Rm,Ya,Yb,Yc,Rn,Ro,Rp,Yd,Ye,Rq,Rs,Rt,Ru,Rv,Rw,Rx]
  exact⟨_,h',hst.mono fun _ q=>q.elim⟩
def owAs(ow:Ow)(T T':Tag):Ow:=fun x=>if ow x=T then T' else ow x
theorem Step.as{m:Tag→Prop}(ow:Ow)(s:ASt)(T T':Tag)(h:m T):Step m ow s (owAs ow T T') s:=
  ⟨Nat.le_refl _,fun x hx hm=>if_neg fun e=>hm (by rw[e];exact h),fun _ _ _=>rfl⟩
theorem Buf.as{ow:Ow}{T T':Tag}{s:ASt}{v:AV}{cs:List AV}(h:Buf ow T s v cs):Buf (owAs ow T T') T' s v cs:=by
  rcases h with h | ⟨i,o,cap,r,h1,h2,h3⟩
  · exact .inl h
  · exact .inr ⟨i,o,cap,r,h1,⟨h2.get,if_pos h2.whose,h2.lt,h2.own,h2.sz,fun q hq=>let ⟨k1,k2,k3⟩:=h2.par q hq;⟨if_pos k1,k2,k3⟩⟩,h3⟩
def addCl(v:Sv)(c:Nat)(l:Clause):Sv:={ v with cl:=clPut v.cl c l }
def keepV(v:Sv)(c:Nat)(L:List Int):Sv:=
  let v1:=addCl { v with trace:=v.trace++[(false,L)] } c (L,true,false)
  let v2:Sv:=if 1<L.length then { watchV v1 c (L.getD 0 0) (L.getD 1 0)with learned:=v.learned++[c] }else v1
  assignV v2 (L.getD 0 0) (some c)
theorem foldl_undo2:∀ (l:List Int)(v:Sv),∃ph va wh,l.foldl undoV v={ v with phase:=ph,value:=va,why:=wh }∧ph.length=v.phase.length∧va.length=v.value.length∧wh.length=v.why.length
  | [],v=>⟨_,_,_,rfl,rfl,rfl,rfl⟩
  | x::l,v=>by
    obtain⟨ph,va,wh,h1,h2,h3,h4⟩:=foldl_undo2 l (undoV v x)
    exact⟨ph,va,wh,h1,h2.trans List.length_set,h3.trans List.length_set,h4.trans List.length_set⟩
theorem backV_eq(v:Sv)(level:Nat):∃ph va wh tr li hd,backV v level={ v with phase:=ph,value:=va,why:=wh,trail:=tr,limits:=li,head:=hd }∧ph.length=v.phase.length∧va.length=v.value.length∧wh.length=v.why.length∧tr.length≤v.trail.length∧li.length≤v.limits.length:=by
  unfold backV
  split
  · exact⟨_,_,_,_,_,_,rfl,rfl,rfl,rfl,Nat.le_refl _,Nat.le_refl _⟩
  · unfold backTo
    obtain⟨ph,va,wh,h1,h2,h3,h4⟩:=foldl_undo2 (v.trail.drop (v.limits.getD level 0).toNat) v
    rw[h1]
    exact⟨ph,va,wh,_,_,_,rfl,h2,h3,h4,by rw[List.length_take];omega,by rw[List.length_take];omega⟩
theorem Siz.back{n:Nat}{v:Sv}(h:Siz n v)(level:Nat):Siz n (backV v level):=by
  obtain⟨ph,va,wh,tr,li,hd,e,h1,h2,h3,h4,h5⟩:=backV_eq v level
  rw[e]
  exact⟨h.small,h.w,h2.trans h.value,h.level,h3.trans h.why,h.heat,h1.trans h.phase,Nat.le_trans h4 h.trail,Nat.le_trans h5 h.limits⟩
theorem TrAt.self{ow:Ow}{s:ASt}{p:Nat}{v:AV}{T:Trace20}(h:TrAt ow s p v T):eqA v v=true:=by
  obtain⟨us,O,h1,_⟩:=h
  obtain⟨a,cap,rfl,_⟩:=h1.cells
  exact eqA_refl_slice
theorem IntArr.slot_ge{lo:Nat}{s:ASt}{v:AV}{L:List Int}(h:IntArr lo s v L)(hL:L≠[]):∀j,slot v=some j→lo≤j∧j<s.next:=by
  rcases h with⟨a,rfl,e⟩ | ⟨i,rfl,h1,h2,_⟩
  · exact absurd e hL
  · intro j hj
    simp[slot]at hj
    subst hj
    exact⟨h1,h2⟩
theorem keep_o1{E:Env}(hE:Good E){K:List AV→ASt→Prop}{ow:Ow}{s:ASt}{p:Nat}{x:Sf}{v:Sv}(h:SAt ow s p x v){lv:AV}{L:List Int}(hlv:Buf ow (p,20,0) s lv (ivs L))(hL:L≠[])(hl:L.length≤1000000)(hT:v.trace.length≤1000000)(x2 x3 x4:AV)
    (hK:∀s1 ow1 x',SAt ow1 s1 p x' { v with trace:=v.trace++[(false,L)] }→x'.w=x.w→Step (mineB p) ow s ow1 s1→K [AV.ptr (some (p,0)),lv,x2,x3,x4] s1):
    Qb E c66o1 K [] [AV.ptr (some (p,0)),lv,x2,x3,x4] s:=by
  have hms:∀ (m:Nat) (i:Nat),Made.val i (.slice m)=.slice (some (i,0)) m (some m):=fun _ _=>rfl
  simp only[c66o1,nilCheck_ptr,fa91_12,h.ld_trc,Qa,Qb,Qc,Qd,Qe,Qf,Qg,Qh,Qi,Qj,Qk,Ql,Qm,Qn,true_and,and_true,Qo,Qp,Qq,Qr,Qs,Qt,Qu,Qv,Qw,Qx,Qy,Qz,Ra,Rb,Rc,Rd,Re,Rf,Rg,Rh,Ri,Rj,Rk,Rl,Rm,Ya,Yb,Yc,Rn,Ro,Rp,Yd,Ye,Rq,Rs,Rt,Ru,Rv,Rw,Rx]
  refine(clone_ok hE (Nat.le_refl _) hlv.slice hl).mono ?_
  rintro u s1 ⟨hu,ho⟩
  have hst:Step (fun _=>False) ow s (ext ow s.next (p,13,0)) s1:=Step.old ho _
  have h1:=h.keep hst (fun _ q=>q.elim)
  obtain⟨t',s2,ow2,a1,a2,a3,a4,a5⟩:=h1.push_trace hT false hu.slice (fun j hj=>by
    obtain⟨q1,q2⟩:=hu.slot_ge hL j hj
    exact⟨ext_ge q1,q2⟩)
  obtain⟨s3,d1,d2,d3,d4⟩:=a2.store (k:=12) (d:=t') (by simp) (t:=33) sz33 a3 a4
  obtain⟨k1,k2⟩:=a5 s3 v.broken d2 (by omega) (fun j hj=>d4 j hj)
  simp only[again_r1,sameA_some,h1.ld_trc,h1.trace.self,bld27_lits hu.slice.isCell.2,bld_line,hms,a1,on2,d1,withV,nilCheck_ptr,fa91_12,Qa,Qb,Qc,Qd,Qe,Qf,Qg,Qh,Qi,Qj,Qk,Ql,Qm,Qn,true_and,and_true,Qo,Qp,Qq,Qr,Qs,Qt,Qu,Qv,Qw,Qx,Qy,Qz,Ra,Rb,Rc,Rd,Re,Rf,Rg,Rh,Ri,Rj,Rk,Rl,Rm,Ya,Yb,Yc,Rn,Ro,Rp,Yd,Ye,Rq,Rs,Rt,Ru,Rv,Rw,Rx]
  exact hK s3 ow2 _ k1 rfl ((hst.mono fun _ q=>q.elim).trans k2)
theorem keep_ok{E:Env}(hE:Good E){ow:Ow}{s:ASt}{p:Nat}{x:Sf}{v:Sv}(h:SAt ow s p x v){n:Nat}(hf:Fit n v){level:Nat}(hlev:level<100000000){lv:AV}{L:List Int}(hlv:Buf ow (p,20,0) s lv (ivs L))(hL:ClsOk n L)(h1:1≤L.length)(hl:L.length≤1000000)(hT:v.trace.length≤1000000)(hW:Tot v.watches≤90000000)(hle:v.learned.length≤100000000):
    WF E 66 [ptrA p,lv,iv (level:Int)] (fun _ s'=>∃c ow' x',v.cl c=none∧SAt ow' s' p x' (keepV (backV v level) c L)∧Step (mine p) ow s ow' s') s:=by
  have hne:L≠[]:=fun e=>by rw[e]at h1;cases h1
  have hz0:=hf.siz.back level
  obtain⟨ph,va,wh,tr,li,hd,e,z1,z2,z3,z4,z5⟩:=backV_eq v level
  have hptr:∀i,Made.val i .ptr=.ptr (some (i,0)):=fun _=>rfl
  refine hE.go comp66 (by decide) rfl ?_
  simp only[c66,c66o0,ptrA,Qa,Qb,Qc,Qd,Qe,Qf,Qg,Qh,Qi,Qj,Qk,Ql,Qm,Qn,true_and,and_true,Qo,Qp,Qq,Qr,Qs,Qt,Qu,Qv,Qw,Qx,Qy,Qz,Ra,Rb,Rc,Rd,Re,Rf,Rg,Rh,Ri,Rj,Rk,Rl,Rm,Ya,Yb,Yc,Rn,Ro,Rp,Yd,Ye,Rq,Rs,Rt,Ru,Rv,Rw,Rx]
  refine(back_ok' hE h hf hlev).mono ?_
  rintro _ s1 ⟨x1,a1,a2,_⟩
  have b1:Buf ow (p,20,0) s1 lv (ivs L):=hlv.step a2 (fun q=>absurd q.2.2.2 (by show ¬ 20<16;omega))
  have hcl1:(backV v level).cl=v.cl:=by rw[e]
  have hT1:(backV v level).trace=v.trace:=by rw[e]
  have hw1:(backV v level).watches=v.watches:=by rw[e]
  have hle1:(backV v level).learned=v.learned:=by rw[e]
  generalize hvb:backV v level=vb at *
  simp only[Qa,Qb,Qc,Qd,Qe,Qf,Qg,Qh,Qi,Qj,Qk,Ql,Qm,Qn,true_and,and_true,Qo,Qp,Qq,Qr,Qs,Qt,Qu,Qv,Qw,Qx,Qy,Qz,Ra,Rb,Rc,Rd,Re,Rf,Rg,Rh,Ri,Rj,Rk,Rl,Rm,Ya,Yb,Yc,Rn,Ro,Rp,Yd,Ye,Rq,Rs,Rt,Ru,Rv,Rw,Rx]
  refine keep_o1 hE a1 b1 hne hl (by rw[hT1];exact hT) _ _ _ ?_
  intro s2 ow2 x2 d1 d2 d3
  have b2:Buf ow2 (p,20,0) s2 lv (ivs L):=b1.step d3 (fun q=>absurd q.2.2.2 (by show ¬ 20<16;omega))
  have hbx:=box104 b2.isCell.2 true false
  have hbl:=bld104 b2.isCell.2
  have hstN:Step (fun _=>False) ow2 s2 (ext ow2 s2.next (p,14,s2.next)) (newObj s2 (mkRow 104 0 [lv,.bool true,.bool false])):=Step.new _ ow2 s2 _ _
  have d1N:=d1.keep hstN (fun _ q=>q.elim)
  have b2N:=b2.step hstN (fun q=>q)
  have hbox:BoxN (newObj s2 (mkRow 104 0 [lv,.bool true,.bool false])) s2.next [lv,.bool true,.bool false]:=BoxN.new
  generalize hc:s2.next=c at *
  generalize hs3:newObj s2 (mkRow 104 0 [lv,.bool true,.bool false])=s3 at *
  have n3:s3.next=c+1:=by rw[← hs3,← hc];rfl
  have hfresh:vb.cl c=none:=by
    cases hcc:vb.cl c with
    | none=>rfl
    | some l =>
      obtain⟨_,_,_,q,_⟩:=d1.cls c l hcc
      omega
  have hasm:Step (· = (p,20,0)) (ext ow2 c (p,14,c)) s3 (owAs (ext ow2 c (p,14,c)) (p,20,0) (p,15,c)) s3:=Step.as _ _ _ _ rfl
  have d3A:=d1N.keep16 hasm (fun a i ha q=>by injection q with _ q;injection q with q;omega)
  have b3:Buf _ (p,15,c) s3 lv (ivs L):=b2N.as (T':=(p,15,c))
  have htag:(owAs (ext ow2 c (p,14,c)) (p,20,0) (p,15,c)) c=(p,14,c):=by
    unfold owAs
    rw[ext_ge (Nat.le_refl c),if_neg (tne (by decide))]
  generalize how3:owAs (ext ow2 c (p,14,c)) (p,20,0) (p,15,c)=ow3 at *
  have d4:SAt ow3 s3 p x2 (addCl { vb with trace:=vb.trace++[(false,L)] } c (L,true,false)):=d3A.clause hfresh ⟨lv,hbox,htag,by omega,b3⟩
  have hstep:Step (mine p) ow s ow3 s3:=((a2.trans d3).b.trans (hstN.mono fun _ q=>q.elim)).trans (hasm.mono fun t ht=>by rw[ht];rfl)
  have hcl4:(addCl { vb with trace:=vb.trace++[(false,L)] } c (L,true,false)).cl c=some (L,true,false):=clPut_same _ _ _
  have hV0:=hL.get (k:=0) (by omega)
  have hg0:=getD_get (d:=(0:Int)) (show 0<L.length by omega)
  have i0:indexAddrA Try.prog 23 lv (iv 0)=some (addrOf lv 0):=b3.addr Try.underlying23 sz3 (k:=0) (by rw[List.length_map];omega)
  have ln:∀s,lenA Try.prog s 23 lv=some (iv (L.length:Int)):=fun s=>by
    have:=b3.len Try.underlying23 s
    rw[List.length_map]at this
    exact this
  have hms:∀ (m:Nat) (i:Nat),Made.val i (.slice m)=.slice (some (i,0)) m (some m):=fun _ _=>rfl
  have bl:=bld_one (P:=Try.prog) (t:=89) (v:=ptrA c) Try.underlying89 sz92 zr92 rfl rfl
  simp only[ptrA]at bl
  simp only[c66o2,hbl,hbx,hc,hs3,hptr,c66o3,ln,Qa,Qb,Qc,Qd,Qe,Qf,Qg,Qh,Qi,Qj,Qk,Ql,Qm,Qn,true_and,and_true,Qo,Qp,Qq,Qr,Qs,Qt,Qu,Qv,Qw,Qx,Qy,Qz,Ra,Rb,Rc,Rd,Re,Rf,Rg,Rh,Ri,Rj,Rk,Rl,Rm,Ya,Yb,Yc,Rn,Ro,Rp,Yd,Ye,Rq,Rs,Rt,Ru,Rv,Rw,Rx]
  by_cases h2:1<L.length
  · have hdd:decide ((1:Int)<(L.length:Int))=true:=decide_eq_true (by omega)
    simp only[hdd,c66o4,Qa,Qb,Qc,Qd,Qe,Qf,Qg,Qh,Qi,Qj,Qk,Ql,Qm,Qn,true_and,and_true,Qo,Qp,Qq,Qr,Qs,Qt,Qu,Qv,Qw,Qx,Qy,Qz,Ra,Rb,Rc,Rd,Re,Rf,Rg,Rh,Ri,Rj,Rk,Rl,Rm,Ya,Yb,Yc,Rn,Ro,Rp,Yd,Ye,Rq,Rs,Rt,Ru,Rv,Rw,Rx]
    refine(watch_ok hE d4 (n:=n) hz0.small hz0.w (by show Tot vb.watches≤_;rw[hw1];exact hW) hcl4 hL h2).mono ?_
    rintro _ s4 ⟨ow4,e1,e2⟩
    have b4:Buf ow4 (p,15,c) s4 lv (ivs L):=b3.step e2 (fun q=>by rcases q.2 with q | q<;>cases q)
    have hst5:Step (fun _=>False) ow4 s4 (ext ow4 s4.next (0,0,0)) (newObj s4 (mkRow 92 1 [ptrA c])):=Step.new _ ow4 s4 _ _
    have e1':=e1.keep hst5 (fun _ q=>q.elim)
    have b4':=b4.step hst5 (fun q=>q)
    obtain⟨u,s5,s6,ow5,f1,f2,f3,f4⟩:=e1'.push_learned (by show vb.learned.length≤_;rw[hle1];omega) c (q:=s4.next) (ty:=92) (sz':=1) (by rw[heap_new,if_pos rfl])
    have b6:Buf ow5 (p,15,c) s6 lv (ivs L):=b4'.step f4 (fun q=>by rcases q with q | q<;>injection q with _ q<;>injection q with q<;>cases q)
    have l0:=b6.get (t:=3) ag3 (k:=0) (get_ivs hg0)
    have ldl:=e1.ld_l
    simp only[ptrA]at f1
    simp only[c66o5,nilCheck_ptr,fa91_1,ldl,bl,hms,f1,on2,f2,withV,c66o6,i0,l0,Qa,Qb,Qc,Qd,Qe,Qf,Qg,Qh,Qi,Qj,Qk,Ql,Qm,Qn,true_and,and_true,Qo,Qp,Qq,Qr,Qs,Qt,Qu,Qv,Qw,Qx,Qy,Qz,Ra,Rb,Rc,Rd,Re,Rf,Rg,Rh,Ri,Rj,Rk,Rl,Rm,Ya,Yb,Yc,Rn,Ro,Rp,Yd,Ye,Rq,Rs,Rt,Ru,Rv,Rw,Rx]
    refine(assign_ok hE f3 (n:=n) ?_ hV0 (some c)).mono ?_
    · exact⟨hz0.small,by show(wPut (wPut _ _ _) _ _).length=_;rw[wPut_len,wPut_len];exact hz0.w,hz0.value,hz0.level,hz0.why,hz0.heat,hz0.phase,hz0.trail,hz0.limits⟩
    rintro _ s7 ⟨ow7,x7,g1,g2,_⟩
    simp only[Qa,Qb,Qc,Qd,Qe,Qf,Qg,Qh,Qi,Qj,Qk,Ql,Qm,Qn,true_and,and_true,Qo,Qp,Qq,Qr,Qs,Qt,Qu,Qv,Qw,Qx,Qy,Qz,Ra,Rb,Rc,Rd,Re,Rf,Rg,Rh,Ri,Rj,Rk,Rl,Rm,Ya,Yb,Yc,Rn,Ro,Rp,Yd,Ye,Rq,Rs,Rt,Ru,Rv,Rw,Rx]
    refine⟨c,ow7,x7,by rw[← hcl1];exact hfresh,?_,hstep.trans ((e2.w.trans (hst5.mono fun _ q=>q.elim)).trans ((f4.n (by decide) (by decide) (by decide)).b.trans g2.b))⟩
    unfold keepV
    simp only[if_pos h2]
    exact g1
  · have hdd : decide ((1 : Int) < (L.length : Int)) = false := decide_eq_false (by omega)
    have l0:=b3.get (t:=3) ag3 (k:=0) (get_ivs hg0)
    simp only[hdd,c66o6,i0,l0,Qa,Qb,Qc,Qd,Qe,Qf,Qg,Qh,Qi,Qj,Qk,Ql,Qm,Qn,true_and,and_true,Qo,Qp,Qq,Qr,Qs,Qt,Qu,Qv,Qw,Qx,Qy,Qz,Ra,Rb,Rc,Rd,Re,Rf,Rg,Rh,Ri,Rj,Rk,Rl,Rm,Ya,Yb,Yc,Rn,Ro,Rp,Yd,Ye,Rq,Rs,Rt,Ru,Rv,Rw,Rx]
    refine(assign_ok hE d4 (n:=n) ⟨hz0.small,hz0.w,hz0.value,hz0.level,hz0.why,hz0.heat,hz0.phase,hz0.trail,hz0.limits⟩ hV0 (some c)).mono ?_
    rintro _ s7 ⟨ow7,x7,g1,g2,_⟩
    simp only[Qa,Qb,Qc,Qd,Qe,Qf,Qg,Qh,Qi,Qj,Qk,Ql,Qm,Qn,true_and,and_true,Qo,Qp,Qq,Qr,Qs,Qt,Qu,Qv,Qw,Qx,Qy,Qz,Ra,Rb,Rc,Rd,Re,Rf,Rg,Rh,Ri,Rj,Rk,Rl,Rm,Ya,Yb,Yc,Rn,Ro,Rp,Yd,Ye,Rq,Rs,Rt,Ru,Rv,Rw,Rx]
    refine⟨c,ow7,x7,by rw[← hcl1];exact hfresh,?_,hstep.trans g2.b⟩
    unfold keepV
    simp only[if_neg h2]
    exact g1
def SeenOf:List Nat→List (AV×AV×Nat)→Prop
  | [],es=>es=[]
  | k::l,es=>∃b t,es=(iv (k:Int),AV.agg [],b)::t∧SeenOf l t
def SeenAt(s:ASt)(i:Nat)(L:List Nat):Prop:=∃es c,s.heap.get i=some (.map es c)∧SeenOf L es
theorem SeenAt.keep{s s':ASt}{i:Nat}{L:List Nat}(h:SeenAt s i L)(k:s'.heap.get i=s.heap.get i):SeenAt s' i L:=by
  obtain⟨es,c,h1,h2⟩:=h
  exact⟨es,c,k.trans h1,h2⟩
theorem SeenOf.snoc:∀ {L:List Nat}{es:List (AV×AV×Nat)},SeenOf L es→∀ (k b:Nat),SeenOf (L++[k]) (es++[(iv (k:Int),AV.agg [],b)])
  | [],es,h,k,b=>by
    have h:es=[]:=h
    subst h
    exact⟨b,[],rfl,rfl⟩
  | j::L,es,h,k,b=>by
    obtain⟨c,t,rfl,h⟩:=h
    exact⟨c,t++[(iv (k:Int),AV.agg [],b)],rfl,h.snoc k b⟩
theorem find_seen : ∀ {L : List Nat} {es : List (AV × AV × Nat)}, SeenOf L es → ∀ (k n : Nat), (k ∈ L ∧ ∃ j b, findA (iv (k : Int)) es n = some (some (j, AV.agg [], b))) ∨ (k ∉ L ∧ findA (iv (k : Int)) es n = some none)
  | [],es,h,k,n=>by
    have h:es=[]:=h
    subst h
    exact .inr ⟨by simp,rfl⟩
  | j::L,es,h,k,n=>by
    obtain⟨c,t,rfl,h⟩:=h
    by_cases e:k=j
    · subst e
      refine .inl ⟨by simp,n,c,?_⟩
      simp only[findA,keyEq_iv,decide_true,Option.bind_some]
    · have hd : decide ((k : Int) = (j : Int)) = false := decide_eq_false (by omega)
      have he:findA (iv (k:Int)) ((iv (j:Int),AV.agg [],c)::t) n=findA (iv (k:Int)) t (n+1):=by
        simp only[findA,keyEq_iv,Option.bind_some,hd]
      rw[he]
      rcases find_seen h k (n+1)with⟨h1,h2⟩ | ⟨h1,h2⟩
      · exact .inl ⟨List.mem_cons_of_mem _ h1,h2⟩
      · exact .inr ⟨by simp[e,h1],h2⟩
theorem lookup_seen{s:ASt}{i:Nat}{L:List Nat}(h:SeenAt s i L)(k:Nat):lookupA Try.prog s 115 (.map (some i)) (iv (k:Int)) true=some (.tuple [.agg [],.bool (decide (k∈L))]):=by
  obtain⟨es,c,h1,h2⟩:=h
  simp only[lookupA,Try.underlying115,simpleKey_iv,guardB,cond_true,h1,Option.bind_some]
  rcases find_seen h2 k 0 with⟨h3,j,b,h4⟩ | ⟨h3,h4⟩
  · rw[h4,decide_eq_true h3];rfl
  · rw[h4,decide_eq_false h3];simp only[Option.bind_some,zr119,cond_true]
theorem update_seen{s:ASt}{i:Nat}{L:List Nat}(h:SeenAt s i L){k:Nat}(hk:k ∉ L):∃s',updateA Try.prog s 115 (.map (some i)) (iv (k:Int)) (.agg [])=some s'∧SeenAt s' i (L++[k])∧s'.next=s.next∧∀j,j≠i→s'.heap.get j=s.heap.get j:=by
  obtain⟨es,c,h1,h2⟩:=h
  simp only[updateA,Try.underlying115,simpleKey_iv,guardB,cond_true,h1,Option.bind_some]
  rcases find_seen h2 k 0 with⟨h3,_⟩ | ⟨h3,h4⟩
  · exact absurd h3 hk
  · rw[h4]
    exact⟨_,rfl,⟨_,_,by rw[heap_set,if_pos rfl],h2.snoc k c⟩,rfl,fun x hx=>by rw[heap_set,if_neg hx]⟩
theorem alloc119:allocA Try.prog 119=some (mkRow 119 0 [],.ptr):=by simp[allocA,zr119,AV.cells]
theorem alloc115:allocA Try.prog 115=some (mkRow 115 0 [.map none],.ptr):=by simp[allocA,zr115,AV.cells]
theorem bld119:buildA Try.prog 119 (zipIdx [] [])=some (.agg []):=by
  simp[buildA,zr119,Try.underlying119,fieldSizes,zipIdx,fillA,cells_agg,guardB]
theorem store119(s:ASt)(i:Nat):storeV Try.prog s 119 (.ptr (some (i,0))) (.agg [])=some s:=by
  simp[storeV,sz119,cells_agg,guardB,storeN]
theorem max_iv(a b:Int):minMax true (iv a) [iv b]=some (iv (max a b)):=by
  have hk:sameKind .i64 .i64=true:=rfl
  simp only[minMax,hk,guardB,cond_true,ltI_eq]
  by_cases h:a<b
  · rw[decide_eq_true h,show max a b=b by omega];rfl
  · rw[decide_eq_false h,show max a b=a by omega];rfl
structure Lst where
  seen:List Nat
  hd:Int
  lits:List Int
  opn:Int
  lev:Int
def learnQ(v:Sv)(a:Lst)(q:Int):Lst:=
  if q.natAbs∈a.seen∨v.level.getD q.natAbs 0=0 then a
  else if v.level.getD q.natAbs 0=(v.limits.length:Int)then { a with seen:=a.seen++[q.natAbs],opn:=a.opn+1 }
  else { a with seen:=a.seen++[q.natAbs],lits:=a.lits++[q],lev:=max a.lev (v.level.getD q.natAbs 0) }
structure LInv(n:Nat)(a:Lst):Prop where
  nodup:a.seen.Nodup
  mem:∀k∈a.seen,1≤k∧k≤n
  len:a.lits.length≤a.seen.length
  lits:∀q∈a.lits,VL n q
  opn:0≤a.opn∧a.opn≤a.seen.length
theorem LInv.small{n:Nat}{a:Lst}(h:LInv n a):a.seen.length≤n:=nodup_len h.nodup h.mem
theorem LInv.step {n : Nat} {a : Lst} (h : LInv n a) (v : Sv) {q : Int} (hq : VL n q) : LInv n (learnQ v a q) := by
  unfold learnQ
  have hq1:1≤q.natAbs∧q.natAbs≤n:=⟨by have:=hq.1;omega,hq.2⟩
  split
  · exact h
  · rename_i h1
    have hns:q.natAbs ∉ a.seen:=fun e=>h1 (.inl e)
    have hnd:(a.seen++[q.natAbs]).Nodup:=by
      rw[List.nodup_append]
      exact⟨h.nodup,by simp,fun x hx y hy e=>by
        have:y=q.natAbs:=by simpa using hy
        exact hns (by rw[← this,← e];exact hx)⟩
    have hmem:∀k∈a.seen++[q.natAbs],1≤k∧k≤n:=fun k hk=>by
      rcases List.mem_append.1 hk with hk | hk
      · exact h.mem k hk
      · have:k=q.natAbs:=by simpa using hk
        rw[this];exact hq1
    have h2:=h.len
    have h3:=h.opn
    split
    · exact⟨hnd,hmem,by show a.lits.length≤(a.seen++[q.natAbs]).length;simp;omega,h.lits,by show 0≤a.opn+1∧a.opn+1≤((a.seen++[q.natAbs]).length:Int);simp;omega⟩
    · exact⟨hnd,hmem,by show(a.lits++[q]).length≤(a.seen++[q.natAbs]).length;simp;omega,fun y hy=>by
        rcases List.mem_append.1 hy with hy | hy
        · exact h.lits y hy
        · have:y=q:=by simpa using hy
          rw[this];exact hq,by show 0≤a.opn∧a.opn≤((a.seen++[q.natAbs]).length:Int);simp;omega⟩
structure LAt(ow:Ow)(s:ASt)(p:Nat)(x:Sf)(v:Sv)(N:Nat)(h:List Int)(a:Lst):Prop where
  sat:SAt ow s p x (heatV v h)
  hl:h.length=v.heat.length
  sb:Box1 s N (ptrA p)
  lb:∃lv,Box1 s (N+1) lv∧Buf ow (p,20,0) s lv (ivs (a.hd::a.lits))
  vb:Box1 s (N+2) (iv a.lev)
  mo:SeenAt s (N+3) a.seen
  mb:Box1 s (N+4) (.map (some (N+3)))
  ob:Box1 s (N+6) (iv a.opn)
  tg:∀j,N≤j→j≤N+6→j≠N+5→ow j=(p,21,0)
  lt:N+6<s.next
def mineQ(p:Nat)(t:Tag):Prop:=t=(p,7,0)∨t=(p,20,0)∨t=(p,21,0)
def mineL(p:Nat)(t:Tag):Prop:=mineQ p t∨t=(p,23,0)
theorem LAt.keep{m:Tag→Prop}{ow ow':Ow}{s s':ASt}{p:Nat}{x:Sf}{v:Sv}{N:Nat}{h:List Int}{a:Lst}(H:LAt ow s p x v N h a)(k:Step m ow s ow' s')(hm:∀y i,y<16→¬ m (p,y,i))(h1:¬ m (p,20,0))(h2:¬ m (p,21,0)):LAt ow' s' p x v N h a:=by
  have hn:=k.next
  have hlt:=H.lt
  have g:∀j,N≤j→j≤N+6→j≠N+5→s'.heap.get j=s.heap.get j:=fun j q1 q2 q3=>k.heap j (by omega) (by rw[H.tg j q1 q2 q3];exact h2)
  obtain⟨lv,l1,l2⟩:=H.lb
  exact { sat:=H.sat.keep16 k hm,hl:=H.hl,sb:=H.sb.keep (g _ (by omega) (by omega) (by omega)),lb:=⟨lv,l1.keep (g _ (by omega) (by omega) (by omega)),l2.step k h1⟩,vb:=H.vb.keep (g _ (by omega) (by omega) (by omega)),mo:=H.mo.keep (g _ (by omega) (by omega) (by omega)),mb:=H.mb.keep (g _ (by omega) (by omega) (by omega)),ob:=H.ob.keep (g _ (by omega) (by omega) (by omega)),tg:=fun j q1 q2 q3=>by rw[k.tags j (by omega) (by rw[H.tg j q1 q2 q3];exact h2)];exact H.tg j q1 q2 q3,lt:=by omega }
theorem LAt.box{ow:Ow}{s s':ASt}{p:Nat}{x:Sf}{v:Sv}{N:Nat}{h:List Int}{a:Lst}(H:LAt ow s p x v N h a){i:Nat}(h1:N≤i)(h2:i≤N+6)(h3:i≠N+5)(hn:s'.next=s.next)(hf:∀j,j≠i→s'.heap.get j=s.heap.get j):
    Step (· = (p,21,0)) ow s ow s'∧SAt ow s' p x (heatV v h)∧∀ (T:Tag) (u:AV) (cs:List AV),T≠(p,21,0)→Buf ow T s u cs→Buf ow T s' u cs:=by
  have st:Step (· = (p,21,0)) ow s ow s':=⟨by omega,fun _ _ _=>rfl,fun y _ hm=>hf y fun e=>hm (by rw[e];exact H.tg i h1 h2 h3)⟩
  exact⟨st,H.sat.keep16 st (fun y i hy e=>by injection e with _ e;injection e with e _;omega),fun T u cs hT hb=>hb.step st hT⟩
theorem LAt.setLev{ow:Ow}{s:ASt}{p:Nat}{x:Sf}{v:Sv}{N:Nat}{h:List Int}{a:Lst}(H:LAt ow s p x v N h a)(y:Int):
    ∃s',storeV Try.prog s 3 (.ptr (some (N+2,0))) (iv y)=some s'∧LAt ow s' p x v N h { a with lev:=y }∧Step (mineQ p) ow s ow s'∧s'.next=s.next:=by
  obtain⟨s',g1,g2,g3,g4⟩:=H.vb.store (d:=iv y) sz3 rfl rfl
  obtain⟨k1,k2,k3⟩:=H.box (i:=N+2) (by omega) (by omega) (by omega) g3 g4
  obtain⟨lv,l1,l2⟩:=H.lb
  exact⟨s',g1,{ sat:=k2,hl:=H.hl,sb:=H.sb.keep (g4 _ (by omega)),lb:=⟨lv,l1.keep (g4 _ (by omega)),k3 _ _ _ (tne (by decide)) l2⟩,vb:=g2,mo:=H.mo.keep (g4 _ (by omega)),mb:=H.mb.keep (g4 _ (by omega)),ob:=H.ob.keep (g4 _ (by omega)),tg:=H.tg,lt:=by have:=H.lt;omega },k1.mono fun t ht=>.inr (.inr ht),g3⟩
theorem LAt.setOpn{ow:Ow}{s:ASt}{p:Nat}{x:Sf}{v:Sv}{N:Nat}{h:List Int}{a:Lst}(H:LAt ow s p x v N h a)(y:Int):
    ∃s',storeV Try.prog s 3 (.ptr (some (N+6,0))) (iv y)=some s'∧LAt ow s' p x v N h { a with opn:=y }∧Step (mineQ p) ow s ow s'∧s'.next=s.next:=by
  obtain⟨s',g1,g2,g3,g4⟩:=H.ob.store (d:=iv y) sz3 rfl rfl
  obtain⟨k1,k2,k3⟩:=H.box (i:=N+6) (by omega) (by omega) (by omega) g3 g4
  obtain⟨lv,l1,l2⟩:=H.lb
  exact⟨s',g1,{ sat:=k2,hl:=H.hl,sb:=H.sb.keep (g4 _ (by omega)),lb:=⟨lv,l1.keep (g4 _ (by omega)),k3 _ _ _ (tne (by decide)) l2⟩,vb:=H.vb.keep (g4 _ (by omega)),mo:=H.mo.keep (g4 _ (by omega)),mb:=H.mb.keep (g4 _ (by omega)),ob:=g2,tg:=H.tg,lt:=by have:=H.lt;omega },k1.mono fun t ht=>.inr (.inr ht),g3⟩
theorem LAt.addSeen{ow:Ow}{s:ASt}{p:Nat}{x:Sf}{v:Sv}{N:Nat}{h:List Int}{a:Lst}(H:LAt ow s p x v N h a){k:Nat}(hk:k ∉ a.seen):
    ∃s',updateA Try.prog s 115 (.map (some (N+3))) (iv (k:Int)) (.agg [])=some s'∧LAt ow s' p x v N h { a with seen:=a.seen++[k] }∧Step (mineQ p) ow s ow s'∧s'.next=s.next:=by
  obtain⟨s',g1,g2,g3,g4⟩:=update_seen H.mo hk
  obtain⟨k1,k2,k3⟩:=H.box (i:=N+3) (by omega) (by omega) (by omega) g3 g4
  obtain⟨lv,l1,l2⟩:=H.lb
  exact⟨s',g1,{ sat:=k2,hl:=H.hl,sb:=H.sb.keep (g4 _ (by omega)),lb:=⟨lv,l1.keep (g4 _ (by omega)),k3 _ _ _ (tne (by decide)) l2⟩,vb:=H.vb.keep (g4 _ (by omega)),mo:=g2,mb:=H.mb.keep (g4 _ (by omega)),ob:=H.ob.keep (g4 _ (by omega)),tg:=H.tg,lt:=by have:=H.lt;omega },k1.mono fun t ht=>.inr (.inr ht),g3⟩
theorem LAt.heat{ow:Ow}{s:ASt}{p:Nat}{x:Sf}{v:Sv}{N:Nat}{h:List Int}{a:Lst}(H:LAt ow s p x v N h a){k:Nat}(hk:k<h.length)(y:Int):
    ∃s',storeV Try.prog s 3 (addrOf x.heat k) (iv y)=some s'∧LAt ow s' p x v N (h.set k y) a∧Step (mineQ p) ow s ow s'∧s'.next=s.next:=by
  obtain⟨s',g1,g2,g3,g4⟩:=H.sat.put_heat (k:=k) hk y
  obtain⟨s'',q1,q2,q3,q4⟩:=H.sat.heat.set (t:=3) sz3 (k:=k) (x:=iv y) (by rw[List.length_map];exact hk) rfl rfl
  rw[g1]at q1
  injection q1 with q1
  subst q1
  have hlt:=H.lt
  have g:∀j,N≤j→j≤N+6→j≠N+5→s'.heap.get j=s.heap.get j:=fun j r1 r2 r3=>q3.heap j (by omega) (by rw[H.tg j r1 r2 r3];exact tne (by decide))
  obtain⟨lv,l1,l2⟩:=H.lb
  exact⟨s',g1,{ sat:=g2,hl:=by rw[List.length_set];exact H.hl,sb:=H.sb.keep (g _ (by omega) (by omega) (by omega)),lb:=⟨lv,l1.keep (g _ (by omega) (by omega) (by omega)),l2.step q3 (tne (by decide))⟩,vb:=H.vb.keep (g _ (by omega) (by omega) (by omega)),mo:=H.mo.keep (g _ (by omega) (by omega) (by omega)),mb:=H.mb.keep (g _ (by omega) (by omega) (by omega)),ob:=H.ob.keep (g _ (by omega) (by omega) (by omega)),tg:=H.tg,lt:=by omega },q3.mono fun t ht=>.inl ht,g4⟩
theorem LAt.push{ow:Ow}{s:ASt}{p:Nat}{x:Sf}{v:Sv}{N:Nat}{h:List Int}{a:Lst}(H:LAt ow s p x v N h a)(hle:a.lits.length≤1000000){lv:AV}(hlv:Box1 s (N+1) lv){q:Int}{i:Nat}{ty sz':Nat}(hq:s.heap.get i=some (mkRow ty sz' [iv q])):
    ∃u s' s'' ow',appendA Try.prog s [23,23] [lv,.slice (some (i,0)) 1 (some 1)]=some (u,s')∧storeV Try.prog s' 23 (.ptr (some (N+1,0))) u=some s''∧LAt ow' s'' p x v N h { a with lits:=a.lits++[q] }∧Step (mineQ p) ow s ow' s'':=by
  obtain⟨lv',l1,l2⟩:=H.lb
  have e:lv'=lv:=by
    have q1:=l1.load ag23
    rw[hlv.load ag23]at q1
    injection q1 with q1
    exact q1.symm
  subst e
  obtain⟨u,s',ow',g1,g2,g3⟩:=l2.push (st:=23) (e:=3) Try.underlying23 sz3 by3 (by decide) str23 zero3 (by simp;omega) (x:=iv q) rfl hq
  have hlt:=H.lt
  have hn:=g3.next
  have g:∀j,N≤j→j≤N+6→j≠N+5→s'.heap.get j=s.heap.get j:=fun j r1 r2 r3=>g3.heap j (by omega) (by rw[H.tg j r1 r2 r3];exact tne (by decide))
  have ht:∀j,N≤j→j≤N+6→j≠N+5→ow' j=(p,21,0):=fun j r1 r2 r3=>by rw[g3.tags j (by omega) (by rw[H.tg j r1 r2 r3];exact tne (by decide))];exact H.tg j r1 r2 r3
  have b1:Box1 s' (N+1) lv':=l1.keep (g _ (by omega) (by omega) (by omega))
  obtain⟨s'',k1,k2,k3,k4⟩:=b1.store (d:=u) sz23 g2.isCell.1 g2.isCell.2
  have st:Step (· = (p,21,0)) ow' s' ow' s'':=⟨by omega,fun _ _ _=>rfl,fun y _ hm=>k4 y fun e=>hm (by rw[e];exact ht (N+1) (by omega) (by omega) (by omega))⟩
  have kk:∀j,N≤j→j≤N+6→j≠N+5→j≠N+1→s''.heap.get j=s.heap.get j:=fun j r1 r2 r3 r4=>(k4 j r4).trans (g j r1 r2 r3)
  refine⟨u,s',s'',ow',g1,k1,{ sat:=(H.sat.keep16 g3 (fun y i hy e=>by injection e with _ e;injection e with e _;omega)).keep16 st (fun y i hy e=>by injection e with _ e;injection e with e _;omega),hl:=H.hl,sb:=H.sb.keep (kk _ (by omega) (by omega) (by omega) (by omega)),lb:=⟨u,k2,?_⟩,vb:=H.vb.keep (kk _ (by omega) (by omega) (by omega) (by omega)),mo:=H.mo.keep (kk _ (by omega) (by omega) (by omega) (by omega)),mb:=H.mb.keep (kk _ (by omega) (by omega) (by omega) (by omega)),ob:=H.ob.keep (kk _ (by omega) (by omega) (by omega) (by omega)),tg:=ht,lt:=by omega },(g3.mono fun t ht=>.inr (.inl ht)).trans (st.mono fun t ht=>.inr (.inr ht))⟩
  have e:ivs (a.hd::(a.lits++[q]))=ivs (a.hd::a.lits)++[iv q]:=by simp
  show Buf ow' (p,20,0) s'' u (ivs (a.hd::(a.lits++[q])))
  rw[e]
  exact g2.step st (tne (by decide))
abbrev lvs (p N:Nat) (x1 x7 x8 x9 x10 x11 x12 x13 x14 x15 x16 x17 x18 x19 x20:AV):List AV:=[.ptr (some (p,0)),x1,.ptr (some (N,0)),.ptr (some (N+1,0)),.ptr (some (N+2,0)),.ptr (some (N+4,0)),.ptr (some (N+6,0)),x7,x8,x9,x10,x11,x12,x13,x14,x15,x16,x17,x18,x19,x20]
def loop67 (p N:Nat) (x1 x7 x8 x9 x10 x11 x12 x13 x14 x15 x16 x17 x18 x19 x20:AV) (d:Nat):ALoop:=loopObj 67 (lvs p N x1 x7 x8 x9 x10 x11 x12 x13 x14 x15 x16 x17 x18 x19 x20) #[26] a67 b67 d
section
variable{E:Env}{K:List AV→ASt→Prop}{ow:Ow}{s:ASt}{p:Nat}{x:Sf}{v:Sv}{N:Nat}{h:List Int}{a:Lst}
theorem L_o8(H:LAt ow s p x v N h a)(k:Nat){x1 x7 x8 x9 x11 x12 x13 x14 x15 x16 x17 x18 x19 x20:AV}(hK:K (lvs p N x1 x7 x8 x9 (iv (k:Int)) (.bool (decide (k∈a.seen))) x12 x13 x14 x15 x16 x17 x18 x19 x20) (newObj s (mkRow 119 0 []))):
    Qb E c67o8 K [] (lvs p N x1 x7 x8 x9 (iv (k:Int)) x11 x12 x13 x14 x15 x16 x17 x18 x19 x20) s:=by
  have hptr:∀i,Made.val i .ptr=.ptr (some (i,0)):=fun _=>rfl
  simp only[c67o8,lvs,H.mb.load ag115,lookup_seen H.mo k,alloc119,hptr,on2,store119,withV,Qa,Qb,Qc,Qd,Qe,Qf,Qg,Qh,Qi,Qj,Qk,Ql,Qm,Qn,true_and,and_true,Qo,Qp,Qq,Qr,Qs,Qt,Qu,Qv,Qw,Qx,Qy,Qz,Ra,Rb,Rc,Rd,Re,Rf,Rg,Rh,Ri,Rj,Rk,Rl,Rm,Ya,Yb,Yc,Rn,Ro,Rp,Yd,Ye,Rq,Rs,Rt,Ru,Rv,Rw,Rx]
  exact hK
theorem L_o9(H:LAt ow s p x v N h a){k:Nat}(hk:k<v.level.length)(b:Bool){x1 x7 x8 x9 x12 x13 x14 x15 x16 x17 x18 x19 x20:AV}(hK:K (lvs p N x1 x7 x8 x9 (iv (k:Int)) (.bool b) x12 x13 x14 x15 (.bool (b || decide (v.level.getD k 0=0))) x17 x18 x19 x20) s):
    Qb E c67o9 K [] (lvs p N x1 x7 x8 x9 (iv (k:Int)) (.bool b) x12 x13 x14 x15 x16 x17 x18 x19 x20) s:=by
  have hl:Buf ow (p,5,0) s x.lev (ivs v.level):=H.sat.level
  have hg:=getD_get (d:=(0:Int)) hk
  have i1:=hl.addr Try.underlying23 sz3 (k:=k) (by rw[List.length_map];exact hk)
  have i2:=hl.get (t:=3) ag3 (k:=k) (get_ivs hg)
  have l1:=H.sb.load ag44
  simp only[ptrA]at l1
  cases b with
  | true =>
    simp only[c67o9,lvs,Qa,Qb,Qc,Qd,Qe,Qf,Qg,Qh,Qi,Qj,Qk,Ql,Qm,Qn,true_and,and_true,Qo,Qp,Qq,Qr,Qs,Qt,Qu,Qv,Qw,Qx,Qy,Qz,Ra,Rb,Rc,Rd,Re,Rf,Rg,Rh,Ri,Rj,Rk,Rl,Rm,Ya,Yb,Yc,Rn,Ro,Rp,Yd,Ye,Rq,Rs,Rt,Ru,Rv,Rw,Rx]
    exact hK
  | false =>
    simp only[c67o9,lvs,l1,nilCheck_ptr,fa91_3,H.sat.ld_lev,i1,i2,Qa,Qb,Qc,Qd,Qe,Qf,Qg,Qh,Qi,Qj,Qk,Ql,Qm,Qn,true_and,and_true,Qo,Qp,Qq,Qr,Qs,Qt,Qu,Qv,Qw,Qx,Qy,Qz,Ra,Rb,Rc,Rd,Re,Rf,Rg,Rh,Ri,Rj,Rk,Rl,Rm,Ya,Yb,Yc,Rn,Ro,Rp,Yd,Ye,Rq,Rs,Rt,Ru,Rv,Rw,Rx]
    simpa using hK
theorem L_o10(H:LAt ow s p x v N h a){k:Nat}(hk:k ∉ a.seen){x1 x7 x8 x9 x11 x12 x13 x14 x15 x16 x17 x18 x19 x20:AV}(hK:∀s',LAt ow s' p x v N h { a with seen:=a.seen++[k] }→Step (mineQ p) ow s ow s'→s'.next=s.next→K (lvs p N x1 x7 x8 x9 (iv (k:Int)) x11 x12 x13 x14 x15 x16 x17 x18 x19 x20) s'):
    Qb E c67o10 K [] (lvs p N x1 x7 x8 x9 (iv (k:Int)) x11 x12 x13 x14 x15 x16 x17 x18 x19 x20) s:=by
  obtain⟨s',g1,g2,g3,g4⟩:=H.addSeen hk
  simp only[c67o10,lvs,H.mb.load ag115,bld119,on3,g1,withV,Qa,Qb,Qc,Qd,Qe,Qf,Qg,Qh,Qi,Qj,Qk,Ql,Qm,Qn,true_and,and_true,Qo,Qp,Qq,Qr,Qs,Qt,Qu,Qv,Qw,Qx,Qy,Qz,Ra,Rb,Rc,Rd,Re,Rf,Rg,Rh,Ri,Rj,Rk,Rl,Rm,Ya,Yb,Yc,Rn,Ro,Rp,Yd,Ye,Rq,Rs,Rt,Ru,Rv,Rw,Rx]
  exact hK s' g2 g3 g4
theorem L_o11(H:LAt ow s p x v N h a){k:Nat}(hk:k<h.length){x1 x7 x8 x9 x11 x12 x13 x14 x15 x16 x17 x18 x19 x20:AV}(hK:∀s' h',LAt ow s' p x v N h' a→Step (mineQ p) ow s ow s'→s'.next=s.next→K (lvs p N x1 x7 x8 x9 (iv (k:Int)) x11 x12 x13 x14 x15 x16 x17 x18 x19 x20) s'):
    Qb E c67o11 K [] (lvs p N x1 x7 x8 x9 (iv (k:Int)) x11 x12 x13 x14 x15 x16 x17 x18 x19 x20) s:=by
  have hl:Buf ow (p,7,0) s x.heat (ivs h):=H.sat.heat
  have hg:=getD_get (d:=(0:Int)) hk
  have i1:=hl.addr Try.underlying23 sz3 (k:=k) (by rw[List.length_map];exact hk)
  have i2:=hl.get (t:=3) ag3 (k:=k) (get_ivs hg)
  have l1:=H.sb.load ag44
  simp only[ptrA]at l1
  obtain⟨s',g1,g2,g3,g4⟩:=H.heat hk (wrapA .i64 (h.getD k 0+1))
  simp only[c67o11,lvs,l1,nilCheck_ptr,fa91_5,H.sat.ld_heat,i1,i2,bin_addw,on2,g1,withV,Qa,Qb,Qc,Qd,Qe,Qf,Qg,Qh,Qi,Qj,Qk,Ql,Qm,Qn,true_and,and_true,Qo,Qp,Qq,Qr,Qs,Qt,Qu,Qv,Qw,Qx,Qy,Qz,Ra,Rb,Rc,Rd,Re,Rf,Rg,Rh,Ri,Rj,Rk,Rl,Rm,Ya,Yb,Yc,Rn,Ro,Rp,Yd,Ye,Rq,Rs,Rt,Ru,Rv,Rw,Rx]
  exact hK s' _ g2 g3 g4
theorem L_o12(H:LAt ow s p x v N h a){k:Nat}(hk:k<v.level.length){x1 x7 x8 x9 x11 x12 x13 x14 x15 x16 x17 x18 x19 x20:AV}(hK:K (lvs p N x1 x7 x8 x9 (iv (k:Int)) x11 x12 x13 x14 x15 x16 (.bool (decide (v.level.getD k 0=(v.limits.length:Int)))) x18 x19 x20) s):
    Qb E c67o12 K [] (lvs p N x1 x7 x8 x9 (iv (k:Int)) x11 x12 x13 x14 x15 x16 x17 x18 x19 x20) s:=by
  have hl:Buf ow (p,5,0) s x.lev (ivs v.level):=H.sat.level
  have hm:Buf ow (p,10,0) s x.lim (ivs v.limits):=H.sat.limits
  have ln:∀s,lenA Try.prog s 23 x.lim=some (iv (v.limits.length:Int)):=fun s=>by
    have:=hm.len Try.underlying23 s
    rw[List.length_map]at this
    exact this
  have hg:=getD_get (d:=(0:Int)) hk
  have i1:=hl.addr Try.underlying23 sz3 (k:=k) (by rw[List.length_map];exact hk)
  have i2:=hl.get (t:=3) ag3 (k:=k) (get_ivs hg)
  have l1:=H.sb.load ag44
  simp only[ptrA]at l1
  simp only[c67o12,lvs,l1,nilCheck_ptr,fa91_3,fa91_8,H.sat.ld_lev,H.sat.ld_lim,ln,i1,i2,Qa,Qb,Qc,Qd,Qe,Qf,Qg,Qh,Qi,Qj,Qk,Ql,Qm,Qn,true_and,and_true,Qo,Qp,Qq,Qr,Qs,Qt,Qu,Qv,Qw,Qx,Qy,Qz,Ra,Rb,Rc,Rd,Re,Rf,Rg,Rh,Ri,Rj,Rk,Rl,Rm,Ya,Yb,Yc,Rn,Ro,Rp,Yd,Ye,Rq,Rs,Rt,Ru,Rv,Rw,Rx]
  exact hK
theorem L_o13(H:LAt ow s p x v N h a)(ho:0≤a.opn∧a.opn<1000000000){x1 x7 x8 x9 x10 x11 x12 x13 x14 x15 x16 x17 x18 x19 x20:AV}(hK:∀s',LAt ow s' p x v N h { a with opn:=a.opn+1 }→Step (mineQ p) ow s ow s'→s'.next=s.next→K (lvs p N x1 x7 x8 x9 x10 x11 x12 x13 x14 x15 x16 x17 x18 x19 x20) s'):
    Qb E c67o13 K [] (lvs p N x1 x7 x8 x9 x10 x11 x12 x13 x14 x15 x16 x17 x18 x19 x20) s:=by
  obtain⟨s',g1,g2,g3,g4⟩:=H.setOpn (a.opn+1)
  have e3:=bin_add Try.prog 3 a.opn 1 ⟨by omega,by omega⟩
  simp only[c67o13,lvs,H.ob.load ag3,e3,on2,g1,withV,Qa,Qb,Qc,Qd,Qe,Qf,Qg,Qh,Qi,Qj,Qk,Ql,Qm,Qn,true_and,and_true,Qo,Qp,Qq,Qr,Qs,Qt,Qu,Qv,Qw,Qx,Qy,Qz,Ra,Rb,Rc,Rd,Re,Rf,Rg,Rh,Ri,Rj,Rk,Rl,Rm,Ya,Yb,Yc,Rn,Ro,Rp,Yd,Ye,Rq,Rs,Rt,Ru,Rv,Rw,Rx]
  exact hK s' g2 g3 g4
theorem L_o14(H:LAt ow s p x v N h a)(hle:a.lits.length≤1000000){q:Int}{x1 x7 x8 x10 x11 x12 x13 x14 x15 x16 x17 x18 x19 x20:AV}(hK:∀s' ow',LAt ow' s' p x v N h { a with lits:=a.lits++[q] }→Step (mineQ p) ow s ow' s'→K (lvs p N x1 x7 x8 (iv q) x10 x11 x12 x13 x14 x15 x16 x17 x18 x19 x20) s'):
    Qb E c67o14 K [] (lvs p N x1 x7 x8 (iv q) x10 x11 x12 x13 x14 x15 x16 x17 x18 x19 x20) s:=by
  obtain⟨lv,l1,l2⟩:=H.lb
  have hms:∀ (m:Nat) (i:Nat),Made.val i (.slice m)=.slice (some (i,0)) m (some m):=fun _ _=>rfl
  have bl:=bld_one (P:=Try.prog) (t:=23) (v:=iv q) Try.underlying23 sz3 zr3 rfl rfl
  have hst:Step (fun _=>False) ow s (ext ow s.next (0,0,0)) (newObj s (mkRow 3 1 [iv q])):=Step.new _ ow s _ _
  have H1:=H.keep hst (fun _ _ _ q=>q) (fun q=>q) (fun q=>q)
  have l1':Box1 (newObj s (mkRow 3 1 [iv q])) (N+1) lv:=l1.keep (hst.heap _ (by have:=H.lt;omega) (fun q=>q))
  obtain⟨u,s1,s2,ow',f1,f2,f3,f4⟩:=H1.push hle l1' (q:=q) (i:=s.next) (ty:=3) (sz':=1) (by rw[heap_new,if_pos rfl])
  simp only[c67o14,lvs,l1.load ag23,bl,hms,f1,on2,f2,withV,Qa,Qb,Qc,Qd,Qe,Qf,Qg,Qh,Qi,Qj,Qk,Ql,Qm,Qn,true_and,and_true,Qo,Qp,Qq,Qr,Qs,Qt,Qu,Qv,Qw,Qx,Qy,Qz,Ra,Rb,Rc,Rd,Re,Rf,Rg,Rh,Ri,Rj,Rk,Rl,Rm,Ya,Yb,Yc,Rn,Ro,Rp,Yd,Ye,Rq,Rs,Rt,Ru,Rv,Rw,Rx]
  exact hK s2 ow' f3 ((hst.mono fun _ q=>q.elim).trans f4)
theorem L_o15(H:LAt ow s p x v N h a){k:Nat}(hk:k<v.level.length){x1 x7 x8 x9 x11 x12 x13 x14 x15 x16 x17 x18 x19 x20:AV}(hK:∀s',LAt ow s' p x v N h { a with lev:=max a.lev (v.level.getD k 0) }→Step (mineQ p) ow s ow s'→s'.next=s.next→K (lvs p N x1 x7 x8 x9 (iv (k:Int)) x11 x12 x13 x14 x15 x16 x17 x18 x19 x20) s'):
    Qb E c67o15 K [] (lvs p N x1 x7 x8 x9 (iv (k:Int)) x11 x12 x13 x14 x15 x16 x17 x18 x19 x20) s:=by
  have hl:Buf ow (p,5,0) s x.lev (ivs v.level):=H.sat.level
  have hg:=getD_get (d:=(0:Int)) hk
  have i1:=hl.addr Try.underlying23 sz3 (k:=k) (by rw[List.length_map];exact hk)
  have i2:=hl.get (t:=3) ag3 (k:=k) (get_ivs hg)
  have l1:=H.sb.load ag44
  simp only[ptrA]at l1
  obtain⟨s',g1,g2,g3,g4⟩:=H.setLev (max a.lev (v.level.getD k 0))
  simp only[c67o15,lvs,H.vb.load ag3,l1,nilCheck_ptr,fa91_3,H.sat.ld_lev,i1,i2,max_iv,on2,g1,withV,Qa,Qb,Qc,Qd,Qe,Qf,Qg,Qh,Qi,Qj,Qk,Ql,Qm,Qn,true_and,and_true,Qo,Qp,Qq,Qr,Qs,Qt,Qu,Qv,Qw,Qx,Qy,Qz,Ra,Rb,Rc,Rd,Re,Rf,Rg,Rh,Ri,Rj,Rk,Rl,Rm,Ya,Yb,Yc,Rn,Ro,Rp,Yd,Ye,Rq,Rs,Rt,Ru,Rv,Rw,Rx]
  exact hK s' g2 g3 g4
end
theorem learn_round {E : Env} (hE : Good E) {ow : Ow} {s : ASt} {p : Nat} {x : Sf} {v : Sv} {N : Nat} {h : List Int} {a : Lst} (H : LAt ow s p x v N h a) {n : Nat} (hn : n ≤ 1000000) (hlev : v.level.length = n + 1) (hheat : v.heat.length = n + 1) (hI : LInv n a) {q : Int} (hq : VL n q) {l d : Nat} {x1 x7 x8 x9 x10 x11 x12 x13 x14 x15 x16 x17 x18 x19 x20 : AV}
    (hlp:loopAt s l=some (loop67 p N x1 x7 x8 x9 x10 x11 x12 x13 x14 x15 x16 x17 x18 x19 x20 d)) (htl:ow l=(p,23,0)) (hll:l<s.next) {K:AV→ASt→Prop}
    (hK:∀s' ow' h',LAt ow' s' p x v N h' (learnQ v a q)→loopAt s' l=some (loop67 p N x1 x7 x8 x9 x10 x11 x12 x13 x14 x15 x16 x17 x18 x19 x20 d)→Step (mineL p) ow s ow' s'→ow' l=(p,23,0)→K (.bool true) s'):
    WR E l [iv q] K s:=by
  have hz:zipParams (varsIn E.P 67) (lvs p N x1 x7 x8 x9 x10 x11 x12 x13 x14 x15 x16 x17 x18 x19 x20) [26] [iv q]=some (lvs p N x1 x7 x8 x9 x10 x11 x12 x13 x14 (iv q) x16 x17 x18 x19 x20):=by
    rw[hE.P,vars67];rfl
  refine WR.round hlp hz (by rw[hE.P];exact ca67) (by rw[hE.P];exact cb67) ?_
  refine wpC_run ?_
  simp only[c67a,c67o6,lvs,Qa,Qb,Qc,Qd,Qe,Qf,Qg,Qh,Qi,Qj,Qk,Ql,Qm,Qn,true_and,and_true,Qo,Qp,Qq,Qr,Qs,Qt,Qu,Qv,Qw,Qx,Qy,Qz,Ra,Rb,Rc,Rd,Re,Rf,Rg,Rh,Ri,Rj,Rk,Rl,Rm,Ya,Yb,Yc,Rn,Ro,Rp,Yd,Ye,Rq,Rs,Rt,Ru,Rv,Rw,Rx]
  refine⟨_,hlp,rfl,wpC_run ?_⟩
  generalize hs1:setObj s l _=s1
  have n1:s1.next=s.next:=by rw[← hs1];rfl
  have l1:loopAt s1 l=some { loop67 p N x1 x7 x8 x9 x10 x11 x12 x13 x14 x15 x16 x17 x18 x19 x20 d with state:=.busy }:=by rw[← hs1,loopAt_set]
  have st1:Step (· = (p,23,0)) ow s ow s1:=⟨by omega,fun _ _ _=>rfl,fun y _ hm=>by rw[← hs1,heap_set,if_neg (fun e=>hm (by rw[e];exact htl))]⟩
  have H1:LAt ow s1 p x v N h a:=H.keep st1 (fun y i hy e=>by injection e with _ e;injection e with e _;omega) (tne (by decide)) (tne (by decide))
  have fin:∀ (s2:ASt) (ow2:Ow) (h2:List Int),LAt ow2 s2 p x v N h2 (learnQ v a q)→Step (mineQ p) ow s1 ow2 s2→∃r'',loopAt s2 l=some r''∧K (.bool true) (setObj s2 l (.loop { r'' with state:=.ready,pending:=none })):=by
    intro s2 ow2 h2 H2 st2
    have hnm:¬ mineQ p (p,23,0):=fun e=>by rcases e with e | e | e<;>exact absurd e (tne (by decide))
    have l2:loopAt s2 l=some { loop67 p N x1 x7 x8 x9 x10 x11 x12 x13 x14 x15 x16 x17 x18 x19 x20 d with state:=.busy }:=by
      rw[loopAt_eq (st2.heap l (by omega) (by rw[htl];exact hnm))];exact l1
    have t2:ow2 l=(p,23,0):=by rw[st2.tags l (by omega) (by rw[htl];exact hnm)];exact htl
    have hn2:=st2.next
    refine⟨_,l2,?_⟩
    have st3:Step (· = (p,23,0)) ow2 s2 ow2 (setObj s2 l (.loop (loop67 p N x1 x7 x8 x9 x10 x11 x12 x13 x14 x15 x16 x17 x18 x19 x20 d))):=⟨Nat.le_refl _,fun _ _ _=>rfl,fun y _ hm=>by rw[heap_set,if_neg (fun e=>hm (by rw[e];exact t2))]⟩
    refine hK _ ow2 h2 (H2.keep st3 (fun y i hy e=>by injection e with _ e;injection e with e _;omega) (tne (by decide)) (tne (by decide))) (loopAt_set _ _ _) ?_ t2
    exact((st1.mono fun t ht=>.inr ht).trans (st2.mono fun t ht=>.inl ht)).trans (st3.mono fun t ht=>.inr ht)
  have hq2:=hq.2
  have hsm:=hI.small
  simp only[c67b,c67o7,Qa,Qb,Qc,Qd,Qe,Qf,Qg,Qh,Qi,Qj,Qk,Ql,Qm,Qn,true_and,and_true,Qo,Qp,Qq,Qr,Qs,Qt,Qu,Qv,Qw,Qx,Qy,Qz,Ra,Rb,Rc,Rd,Re,Rf,Rg,Rh,Ri,Rj,Rk,Rl,Rm,Ya,Yb,Yc,Rn,Ro,Rp,Yd,Ye,Rq,Rs,Rt,Ru,Rv,Rw,Rx]
  refine(variable_ok hE (l:=q) ⟨by omega,by omega⟩).mono ?_
  rintro _ _ ⟨rfl,rfl⟩
  simp only[Qa,Qb,Qc,Qd,Qe,Qf,Qg,Qh,Qi,Qj,Qk,Ql,Qm,Qn,true_and,and_true,Qo,Qp,Qq,Qr,Qs,Qt,Qu,Qv,Qw,Qx,Qy,Qz,Ra,Rb,Rc,Rd,Re,Rf,Rg,Rh,Ri,Rj,Rk,Rl,Rm,Ya,Yb,Yc,Rn,Ro,Rp,Yd,Ye,Rq,Rs,Rt,Ru,Rv,Rw,Rx]
  refine L_o8 H1 q.natAbs ?_
  have st8:Step (fun _=>False) ow s1 (ext ow s1.next (0,0,0)) (newObj s1 (mkRow 119 0 [])):=Step.new _ ow s1 _ _
  have H8:=H1.keep st8 (fun _ _ _ q=>q) (fun q=>q) (fun q=>q)
  generalize newObj s1 (mkRow 119 0 [])=s8 at *
  generalize ext ow s1.next (0,0,0)=ow8 at *
  have hst8:Step (mineQ p) ow s1 ow8 s8:=st8.mono fun _ q=>q.elim
  try simp only[Qa,Qb,Qc,Qd,Qe,Qf,Qg,Qh,Qi,Qj,Qk,Ql,Qm,Qn,true_and,and_true,Qo,Qp,Qq,Qr,Qs,Qt,Qu,Qv,Qw,Qx,Qy,Qz,Ra,Rb,Rc,Rd,Re,Rf,Rg,Rh,Ri,Rj,Rk,Rl,Rm,Ya,Yb,Yc,Rn,Ro,Rp,Yd,Ye,Rq,Rs,Rt,Ru,Rv,Rw,Rx]
  refine L_o9 H8 (k:=q.natAbs) (by omega) _ ?_
  by_cases hin:q.natAbs∈a.seen
  · have e:learnQ v a q=a:=by unfold learnQ;rw[if_pos (.inl hin)]
    rw[e]at fin
    simp only[hin,decide_true,Bool.true_or,if_true,Qa,Qb,Qc,Qd,Qe,Qf,Qg,Qh,Qi,Qj,Qk,Ql,Qm,Qn,true_and,and_true,Qo,Qp,Qq,Qr,Qs,Qt,Qu,Qv,Qw,Qx,Qy,Qz,Ra,Rb,Rc,Rd,Re,Rf,Rg,Rh,Ri,Rj,Rk,Rl,Rm,Ya,Yb,Yc,Rn,Ro,Rp,Yd,Ye,Rq,Rs,Rt,Ru,Rv,Rw,Rx]
    exact fin s8 ow8 h H8 hst8
  · by_cases h0 : v.level.getD q.natAbs 0 = 0
    · have e:learnQ v a q=a:=by unfold learnQ;rw[if_pos (.inr h0)]
      rw[e]at fin
      simp only[hin,h0,decide_false,decide_true,Bool.or_true,if_true,Qa,Qb,Qc,Qd,Qe,Qf,Qg,Qh,Qi,Qj,Qk,Ql,Qm,Qn,true_and,and_true,Qo,Qp,Qq,Qr,Qs,Qt,Qu,Qv,Qw,Qx,Qy,Qz,Ra,Rb,Rc,Rd,Re,Rf,Rg,Rh,Ri,Rj,Rk,Rl,Rm,Ya,Yb,Yc,Rn,Ro,Rp,Yd,Ye,Rq,Rs,Rt,Ru,Rv,Rw,Rx]
      exact fin s8 ow8 h H8 hst8
    · simp only[hin,h0,decide_false,Bool.or_self,Qa,Qb,Qc,Qd,Qe,Qf,Qg,Qh,Qi,Qj,Qk,Ql,Qm,Qn,true_and,and_true,Qo,Qp,Qq,Qr,Qs,Qt,Qu,Qv,Qw,Qx,Qy,Qz,Ra,Rb,Rc,Rd,Re,Rf,Rg,Rh,Ri,Rj,Rk,Rl,Rm,Ya,Yb,Yc,Rn,Ro,Rp,Yd,Ye,Rq,Rs,Rt,Ru,Rv,Rw,Rx]
      refine L_o10 H8 hin ?_
      intro s10 H10 st10 n10
      try simp only[Qa,Qb,Qc,Qd,Qe,Qf,Qg,Qh,Qi,Qj,Qk,Ql,Qm,Qn,true_and,and_true,Qo,Qp,Qq,Qr,Qs,Qt,Qu,Qv,Qw,Qx,Qy,Qz,Ra,Rb,Rc,Rd,Re,Rf,Rg,Rh,Ri,Rj,Rk,Rl,Rm,Ya,Yb,Yc,Rn,Ro,Rp,Yd,Ye,Rq,Rs,Rt,Ru,Rv,Rw,Rx]
      refine L_o11 H10 (k:=q.natAbs) (by have:=H10.hl;omega) ?_
      intro s11 h11 H11 st11 n11
      try simp only[Qa,Qb,Qc,Qd,Qe,Qf,Qg,Qh,Qi,Qj,Qk,Ql,Qm,Qn,true_and,and_true,Qo,Qp,Qq,Qr,Qs,Qt,Qu,Qv,Qw,Qx,Qy,Qz,Ra,Rb,Rc,Rd,Re,Rf,Rg,Rh,Ri,Rj,Rk,Rl,Rm,Ya,Yb,Yc,Rn,Ro,Rp,Yd,Ye,Rq,Rs,Rt,Ru,Rv,Rw,Rx]
      refine L_o12 H11 (k:=q.natAbs) (by omega) ?_
      have hst11:=(hst8.trans st10).trans st11
      by_cases hL:v.level.getD q.natAbs 0=(v.limits.length:Int)
      · have e:learnQ v a q={ a with seen:=a.seen++[q.natAbs],opn:=a.opn+1 }:=by unfold learnQ;rw[if_neg (by rintro(e | e);exact hin e;exact h0 e),if_pos hL]
        simp only[hL,decide_true,Qa,Qb,Qc,Qd,Qe,Qf,Qg,Qh,Qi,Qj,Qk,Ql,Qm,Qn,true_and,and_true,Qo,Qp,Qq,Qr,Qs,Qt,Qu,Qv,Qw,Qx,Qy,Qz,Ra,Rb,Rc,Rd,Re,Rf,Rg,Rh,Ri,Rj,Rk,Rl,Rm,Ya,Yb,Yc,Rn,Ro,Rp,Yd,Ye,Rq,Rs,Rt,Ru,Rv,Rw,Rx]
        refine L_o13 H11 (by have:=hI.opn;show 0≤a.opn∧a.opn<_;omega) ?_
        intro s13 H13 st13 n13
        try simp only[Qa,Qb,Qc,Qd,Qe,Qf,Qg,Qh,Qi,Qj,Qk,Ql,Qm,Qn,true_and,and_true,Qo,Qp,Qq,Qr,Qs,Qt,Qu,Qv,Qw,Qx,Qy,Qz,Ra,Rb,Rc,Rd,Re,Rf,Rg,Rh,Ri,Rj,Rk,Rl,Rm,Ya,Yb,Yc,Rn,Ro,Rp,Yd,Ye,Rq,Rs,Rt,Ru,Rv,Rw,Rx]
        rw[e]at fin
        exact fin s13 ow8 h11 H13 (hst11.trans st13)
      · have e:learnQ v a q={ a with seen:=a.seen++[q.natAbs],lits:=a.lits++[q],lev:=max a.lev (v.level.getD q.natAbs 0) }:=by unfold learnQ;rw[if_neg (by rintro(e | e);exact hin e;exact h0 e),if_neg hL]
        simp only[hL,decide_false,Qa,Qb,Qc,Qd,Qe,Qf,Qg,Qh,Qi,Qj,Qk,Ql,Qm,Qn,true_and,and_true,Qo,Qp,Qq,Qr,Qs,Qt,Qu,Qv,Qw,Qx,Qy,Qz,Ra,Rb,Rc,Rd,Re,Rf,Rg,Rh,Ri,Rj,Rk,Rl,Rm,Ya,Yb,Yc,Rn,Ro,Rp,Yd,Ye,Rq,Rs,Rt,Ru,Rv,Rw,Rx]
        refine L_o14 H11 (by have:=hI.len;show a.lits.length≤_;omega) ?_
        intro s14 ow14 H14 st14
        try simp only[Qa,Qb,Qc,Qd,Qe,Qf,Qg,Qh,Qi,Qj,Qk,Ql,Qm,Qn,true_and,and_true,Qo,Qp,Qq,Qr,Qs,Qt,Qu,Qv,Qw,Qx,Qy,Qz,Ra,Rb,Rc,Rd,Re,Rf,Rg,Rh,Ri,Rj,Rk,Rl,Rm,Ya,Yb,Yc,Rn,Ro,Rp,Yd,Ye,Rq,Rs,Rt,Ru,Rv,Rw,Rx]
        refine L_o15 H14 (k:=q.natAbs) (by omega) ?_
        intro s15 H15 st15 n15
        try simp only[Qa,Qb,Qc,Qd,Qe,Qf,Qg,Qh,Qi,Qj,Qk,Ql,Qm,Qn,true_and,and_true,Qo,Qp,Qq,Qr,Qs,Qt,Qu,Qv,Qw,Qx,Qy,Qz,Ra,Rb,Rc,Rd,Re,Rf,Rg,Rh,Ri,Rj,Rk,Rl,Rm,Ya,Yb,Yc,Rn,Ro,Rp,Yd,Ye,Rq,Rs,Rt,Ru,Rv,Rw,Rx]
        rw[e]at fin
        exact fin s15 ow14 h11 H15 ((hst11.trans st14).trans st15)
def firstI(f:Int→Bool):List Int→Nat→Option Nat
  | [],_=>none
  | x::l,k=>if f x=true then some k else firstI f l (k+1)
def idxV:Option Nat→AV
  | none=>iv (-1)
  | some k=>iv (k:Int)
theorem findex_loop{E:Env}(hE:Good E){s:ASt}{b:Nat}{L:List Int}{f:Int→Bool}{g:FuncId}{cp:List AV}(hg:∀q∈L,WF E g (iv q::cp) (fun r s'=>r=.bool (f q)∧s=s') s)(hlen:L.length<9223372036854775808){a:Option (Nat×Nat)}{cap:Option Nat}(hc:CellsAt b s a (ivs L)){Q:ARes→Prop}(x2:AV):
    ∀ (l : List Int) (k : Nat) (x3 x6 x7 : AV), L.drop k = l → k ≤ L.length →
      (firstI f l k=none→∀ (y3 y5 y6 y7:AV),Q ⟨.exit 0,[.slice a L.length cap,.func g [] cp,x2,y3,iv (L.length:Int),y5,y6,y7],[],s⟩) →
      (∀i,firstI f l k=some i→∀ (y3 y5 y6 y7:AV),Q ⟨.ret,[.slice a L.length cap,.func g [] cp,iv (i:Int),y3,iv (L.length:Int),y5,y6,y7],[],s⟩) →
      WC E none (.loop c94l7) Q [.slice a L.length cap,.func g [] cp,x2,x3,iv (L.length:Int),iv (k:Int),x6,x7] [] s:=by
  intro l
  induction l with
  | nil =>
    intro k x3 x6 x7 hd hk hq _
    have:=drop_end hd hk
    subst this
    refine WC.loop' ?_
    simp only[c94l7,c94o2,Int.lt_irrefl,decide_false,Qa,Qb,Qc,Qd,Qe,Qf,Qg,Qh,Qi,Qj,Qk,Ql,Qm,Qn,true_and,and_true,Qo,Qp,Qq,Qr,Qs,Qt,Qu,Qv,Qw,Qx,Qy,Qz,Ra,Rb,Rc,Rd,Re,Rf,Rg,Rh,Ri,Rj,Rk,Rl,Rm,Ya,Yb,Yc,Rn,Ro,Rp,Yd,Ye,Rq,Rs,Rt,Ru,Rv,Rw,Rx]
    exact hq rfl _ _ _ _
  | cons x l ih =>
    intro k x3 x6 x7 hd hk hq hr
    obtain⟨hlt,hx,hd'⟩:=drop_facts hd
    obtain⟨i,o,rfl,hi,hload⟩:=hc k _ (get_ivs hx)
    have hxm:x∈L:=List.mem_of_getElem? hx
    have e1:=idx_slice (cap:=cap) (i:=i) (o:=o) Try.underlying23 sz3 hlt
    have e2:loadV Try.prog s 3 (.ptr (some (i,o+k * 1)))=some (iv x):=load_one ag3 (by rw[Nat.mul_one];exact hload)
    have hkk:decide ((k:Int)<(L.length:Int))=true:=decide_eq_true (by omega)
    have e3:=bin_add Try.prog 3 (k:Int) 1 ⟨by omega,by omega⟩
    have e3':((k:Int)+1)=((k+1:Nat):Int):=by omega
    refine WC.loop' ?_
    generalize hW:WC E none (CCode.loop c94l7) Q=WW
    simp only[c94l7,c94o2,c94o3,c94o4,hkk,e1,e2,List.nil_append,List.append_nil,List.cons_append,Qa,Qb,Qc,Qd,Qe,Qf,Qg,Qh,Qi,Qj,Qk,Ql,Qm,Qn,true_and,and_true,Qo,Qp,Qq,Qr,Qs,Qt,Qu,Qv,Qw,Qx,Qy,Qz,Ra,Rb,Rc,Rd,Re,Rf,Rg,Rh,Ri,Rj,Rk,Rl,Rm,Ya,Yb,Yc,Rn,Ro,Rp,Yd,Ye,Rq,Rs,Rt,Ru,Rv,Rw,Rx]
    refine(hg x hxm).mono ?_
    rintro _ _ ⟨rfl,rfl⟩
    cases hf:f x with
    | true =>
      have ef:firstI f (x::l) k=some k:=by unfold firstI;rw[if_pos hf]
      simp only[c94o5,Qa,Qb,Qc,Qd,Qe,Qf,Qg,Qh,Qi,Qj,Qk,Ql,Qm,Qn,true_and,and_true,Qo,Qp,Qq,Qr,Qs,Qt,Qu,Qv,Qw,Qx,Qy,Qz,Ra,Rb,Rc,Rd,Re,Rf,Rg,Rh,Ri,Rj,Rk,Rl,Rm,Ya,Yb,Yc,Rn,Ro,Rp,Yd,Ye,Rq,Rs,Rt,Ru,Rv,Rw,Rx]
      exact hr k ef _ _ _ _
    | false =>
      have ef:firstI f (x::l) k=firstI f l (k+1):=by rw[firstI,if_neg (by rw[hf];decide)]
      simp only[c94o6,e3,e3',Qa,Qb,Qc,Qd,Qe,Qf,Qg,Qh,Qi,Qj,Qk,Ql,Qm,Qn,true_and,and_true,Qo,Qp,Qq,Qr,Qs,Qt,Qu,Qv,Qw,Qx,Qy,Qz,Ra,Rb,Rc,Rd,Re,Rf,Rg,Rh,Ri,Rj,Rk,Rl,Rm,Ya,Yb,Yc,Rn,Ro,Rp,Yd,Ye,Rq,Rs,Rt,Ru,Rv,Rw,Rx]
      rw[← hW]
      rw[ef]at hq hr
      exact ih (k+1) _ _ _ hd' hlt hq hr
theorem findex_ok{E:Env}(hE:Good E){s:ASt}{b:Nat}{L:List Int}{f:Int→Bool}{g:FuncId}{cp:List AV}(hg:∀q∈L,WF E g (iv q::cp) (fun r s'=>r=.bool (f q)∧s=s') s)(hlen:L.length<9223372036854775808){v:AV}(hv:SliceAt b s v (ivs L)):
    WF E 94 [v,.func g [] cp] (fun r s'=>r=idxV (firstI f L 0)∧s=s') s:=by
  obtain⟨a,cap,rfl,hc⟩:=hv
  rw[ivs_len]
  refine hE.go comp94 (by decide) rfl ?_
  simp only[c94,c94o0,c94o1,len_slice Try.underlying23,Qa,Qb,Qc,Qd,Qe,Qf,Qg,Qh,Qi,Qj,Qk,Ql,Qm,Qn,true_and,and_true,Qo,Qp,Qq,Qr,Qs,Qt,Qu,Qv,Qw,Qx,Qy,Qz,Ra,Rb,Rc,Rd,Re,Rf,Rg,Rh,Ri,Rj,Rk,Rl,Rm,Ya,Yb,Yc,Rn,Ro,Rp,Yd,Ye,Rq,Rs,Rt,Ru,Rv,Rw,Rx]
  refine findex_loop hE hg hlen hc _ L 0 _ _ _ rfl (Nat.zero_le _) ?_ ?_
  · intro hn y3 y5 y6 y7
    rw[hn]
    simp only[c94o8,if_true,idxV,Qa,Qb,Qc,Qd,Qe,Qf,Qg,Qh,Qi,Qj,Qk,Ql,Qm,Qn,true_and,and_true,Qo,Qp,Qq,Qr,Qs,Qt,Qu,Qv,Qw,Qx,Qy,Qz,Ra,Rb,Rc,Rd,Re,Rf,Rg,Rh,Ri,Rj,Rk,Rl,Rm,Ya,Yb,Yc,Rn,Ro,Rp,Yd,Ye,Rq,Rs,Rt,Ru,Rv,Rw,Rx]
  · intro i hi y3 y5 y6 y7
    rw[hi]
    simp only[idxV,Qa,Qb,Qc,Qd,Qe,Qf,Qg,Qh,Qi,Qj,Qk,Ql,Qm,Qn,true_and,and_true,Qo,Qp,Qq,Qr,Qs,Qt,Qu,Qv,Qw,Qx,Qy,Qz,Ra,Rb,Rc,Rd,Re,Rf,Rg,Rh,Ri,Rj,Rk,Rl,Rm,Ya,Yb,Yc,Rn,Ro,Rp,Yd,Ye,Rq,Rs,Rt,Ru,Rv,Rw,Rx]
theorem atlev_ok{E:Env}(hE:Good E){ow:Ow}{s:ASt}{p:Nat}{x:Sf}{v:Sv}{N:Nat}{h:List Int}{a:Lst}(H:LAt ow s p x v N h a){q:Int}(hq:q.natAbs<v.level.length)(hs:v.level.length<1000000000):
    WF E 95 [iv q,.ptr (some (N,0)),.ptr (some (N+2,0))] (fun r s'=>r=.bool (decide (v.level.getD q.natAbs 0=a.lev))∧s=s') s:=by
  have hl:Buf ow (p,5,0) s x.lev (ivs v.level):=H.sat.level
  have hg:=getD_get (d:=(0:Int)) hq
  have i1:=hl.addr Try.underlying23 sz3 (k:=q.natAbs) (by rw[List.length_map];exact hq)
  have i2:=hl.get (t:=3) ag3 (k:=q.natAbs) (get_ivs hg)
  have l1:=H.sb.load ag44
  simp only[ptrA]at l1
  have eqp:eqA (.ptr (some (p,0))) (.ptr (some (p,0)))=true:=by simp[eqA]
  refine hE.go comp95 (by decide) rfl ?_
  simp only[c95,c95o0,c95o1,l1,nilCheck_ptr,fa91_3,H.sat.ld_lev,H.vb.load ag3,Qa,Qb,Qc,Qd,Qe,Qf,Qg,Qh,Qi,Qj,Qk,Ql,Qm,Qn,true_and,and_true,Qo,Qp,Qq,Qr,Qs,Qt,Qu,Qv,Qw,Qx,Qy,Qz,Ra,Rb,Rc,Rd,Re,Rf,Rg,Rh,Ri,Rj,Rk,Rl,Rm,Ya,Yb,Yc,Rn,Ro,Rp,Yd,Ye,Rq,Rs,Rt,Ru,Rv,Rw,Rx]
  refine(variable_ok hE (l:=q) ⟨by omega,by omega⟩).mono ?_
  rintro _ _ ⟨rfl,rfl⟩
  simp only[again_r1,sameA_some,l1,H.sat.ld_lev,H.vb.load ag3,hl.self,eqA_iv,eqp,i1,i2,Qa,Qb,Qc,Qd,Qe,Qf,Qg,Qh,Qi,Qj,Qk,Ql,Qm,Qn,true_and,and_true,Qo,Qp,Qq,Qr,Qs,Qt,Qu,Qv,Qw,Qx,Qy,Qz,Ra,Rb,Rc,Rd,Re,Rf,Rg,Rh,Ri,Rj,Rk,Rl,Rm,Ya,Yb,Yc,Rn,Ro,Rp,Yd,Ye,Rq,Rs,Rt,Ru,Rv,Rw,Rx]
theorem others_ok{E:Env}(hE:Good E){s:ASt}(c:Nat)(l:Int):WF E 93 [ptrA c,iv l] (fun r s'=>r=.func 111 [] [.ptr (some (s.next,0)),.ptr (some (s.next+1,0))]∧s'=newObj (newObj s (mkRow 92 0 [ptrA c])) (mkRow 3 0 [iv l])) s:=by
  have hptr:∀i,Made.val i .ptr=.ptr (some (i,0)):=fun _=>rfl
  have hb1:boxA 92 (ptrA c)=some (mkRow 92 0 [ptrA c],.ptr):=by simp[boxA,ptrA,AV.cells]
  have hb2:boxA 3 (iv l)=some (mkRow 3 0 [iv l],.ptr):=by simp[boxA,AV.cells]
  refine hE.go comp93 (by decide) rfl ?_
  simp only[c93,c93o0,c93o1,hb1,hb2,hptr,List.take_zero,List.drop_zero,Qa,Qb,Qc,Qd,Qe,Qf,Qg,Qh,Qi,Qj,Qk,Ql,Qm,Qn,true_and,and_true,Qo,Qp,Qq,Qr,Qs,Qt,Qu,Qv,Qw,Qx,Qy,Qz,Ra,Rb,Rc,Rd,Re,Rf,Rg,Rh,Ri,Rj,Rk,Rl,Rm,Ya,Yb,Yc,Rn,Ro,Rp,Yd,Ye,Rq,Rs,Rt,Ru,Rv,Rw,Rx]
  rfl
def rest(but:Int)(L:List Int):List Int:=L.filter fun q=>decide (q≠but)
theorem others_loop {E : Env} (hE : Good E) {ow0 : Ow} {s0 : ASt} {p : Nat} {x : Sf} {v : Sv} {N : Nat} {n : Nat} (hn : n ≤ 1000000) (hlev : v.level.length = n + 1) (hheat : v.heat.length = n + 1) {ls : List Int} (hls : ClsOk n ls) {c cb kb l d : Nat} {but : Int} {u : AV} {R : Lst}
    {x1 x7 x8 x9 x10 x11 x12 x13 x14 x15 x16 x17 x18 x19 x20:AV} {Q:ARes→Prop}
    (hq:∀s' ow' h' y3 y7 y8,LAt ow' s' p x v N h' R→LInv n R→loopAt s' l=some (loop67 p N x1 x7 x8 x9 x10 x11 x12 x13 x14 x15 x16 x17 x18 x19 x20 d)→Step (mineL p) ow0 s0 ow' s'→ow' l=(p,23,0)→Q ⟨.exit 0,[.yield l,.ptr (some (cb,0)),.ptr (some (kb,0)),y3,u,iv (ls.length:Int),iv (ls.length:Int),y7,y8],[],s'⟩):
    ∀ (m k:Nat) (s:ASt) (ow:Ow) (h:List Int) (a:Lst) (x3 x7' x8':AV),ls.length - k=m→k≤ls.length→LAt ow s p x v N h a→LInv n a→Buf ow (p,15,c) s u (ivs ls)→Box1 s kb (iv but)→ow kb=(p,22,0)→kb<s.next→loopAt s l=some (loop67 p N x1 x7 x8 x9 x10 x11 x12 x13 x14 x15 x16 x17 x18 x19 x20 d)→ow l=(p,23,0)→l<s.next→Step (mineL p) ow0 s0 ow s→(rest but (ls.drop k)).foldl (learnQ v) a=R →
      WC E none (.loop c111l5) Q [.yield l,.ptr (some (cb,0)),.ptr (some (kb,0)),x3,u,iv (ls.length:Int),iv (k:Int),x7',x8'] [] s:=by
  intro m
  induction m with
  | zero =>
    intro k s ow h a x3 x7' x8' hm hk H hI hu hkb htk hlk hlp htl hll hst hR
    have hk:k=ls.length:=by omega
    subst hk
    rw[List.drop_length]at hR
    have hR:a=R:=hR
    subst hR
    refine WC.loop' ?_
    simp only[c111l5,c111o1,Int.lt_irrefl,decide_false,Qa,Qb,Qc,Qd,Qe,Qf,Qg,Qh,Qi,Qj,Qk,Ql,Qm,Qn,true_and,and_true,Qo,Qp,Qq,Qr,Qs,Qt,Qu,Qv,Qw,Qx,Qy,Qz,Ra,Rb,Rc,Rd,Re,Rf,Rg,Rh,Ri,Rj,Rk,Rl,Rm,Ya,Yb,Yc,Rn,Ro,Rp,Yd,Ye,Rq,Rs,Rt,Ru,Rv,Rw,Rx]
    exact hq s ow h _ _ _ H hI hlp hst htl
  | succ m ih =>
    intro k s ow h a x3 x7' x8' hm hk H hI hu hkb htk hlk hlp htl hll hst hR
    have hlt:k<ls.length:=by omega
    have hls2:=hls.2
    have hV:=hls.get hlt
    have hg:=getD_get (d:=(0:Int)) hlt
    have i1:=hu.addr Try.underlying23 sz3 (k:=k) (by rw[List.length_map];exact hlt)
    have i2:=hu.get (t:=3) ag3 (k:=k) (get_ivs hg)
    have hd:decide ((k:Int)<(ls.length:Int))=true:=decide_eq_true (by omega)
    have e3:=bin_add Try.prog 3 (k:Int) 1 ⟨by omega,by omega⟩
    have e3':((k:Int)+1)=((k+1:Nat):Int):=by omega
    have hdr:ls.drop k=ls.getD k 0::ls.drop (k+1):=by
      rw[List.drop_eq_getElem_cons hlt]
      congr 1
      rw[List.getElem?_eq_getElem hlt]at hg
      injection hg
    refine WC.loop' ?_
    generalize hW:WC E none (CCode.loop c111l5) Q=WW
    by_cases he:ls.getD k 0=but
    · have hne:decide (ls.getD k 0≠but)=false:=decide_eq_false (fun q=>q he)
      simp only[c111l5,c111o1,hd,c111o2,i1,i2,c111o3,hkb.load ag3,hne,c111o4,e3,e3',Qa,Qb,Qc,Qd,Qe,Qf,Qg,Qh,Qi,Qj,Qk,Ql,Qm,Qn,true_and,and_true,Qo,Qp,Qq,Qr,Qs,Qt,Qu,Qv,Qw,Qx,Qy,Qz,Ra,Rb,Rc,Rd,Re,Rf,Rg,Rh,Ri,Rj,Rk,Rl,Rm,Ya,Yb,Yc,Rn,Ro,Rp,Yd,Ye,Rq,Rs,Rt,Ru,Rv,Rw,Rx]
      rw[← hW]
      refine ih (k+1) s ow h a _ _ _ (by omega) (by omega) H hI hu hkb htk hlk hlp htl hll hst ?_
      rw[hdr]at hR
      unfold rest at hR
      rw[List.filter_cons_of_neg (p:=fun q=>decide (q≠but)) (by rw[hne];decide)]at hR
      exact hR
    · have hne:decide (ls.getD k 0≠but)=true:=decide_eq_true he
      simp only[c111l5,c111o1,hd,c111o2,i1,i2,c111o3,hkb.load ag3,hne,Qa,Qb,Qc,Qd,Qe,Qf,Qg,Qh,Qi,Qj,Qk,Ql,Qm,Qn,true_and,and_true,Qo,Qp,Qq,Qr,Qs,Qt,Qu,Qv,Qw,Qx,Qy,Qz,Ra,Rb,Rc,Rd,Re,Rf,Rg,Rh,Ri,Rj,Rk,Rl,Rm,Ya,Yb,Yc,Rn,Ro,Rp,Yd,Ye,Rq,Rs,Rt,Ru,Rv,Rw,Rx]
      refine learn_round hE H hn hlev hheat hI hV hlp htl hll ?_
      intro s' ow' h' H' hlp' st' hlo
      have hn':=st'.next
      have nm:∀y i,y≠7→y≠20→y≠21→y≠23→¬ mineL p (p,y,i):=by
        rintro y i g1 g2 g3 g4 ((e | e | e) | e)
        · exact tne g1 e
        · exact tne g2 e
        · exact tne g3 e
        · exact tne g4 e
      simp only[c111o4,e3,e3',Qa,Qb,Qc,Qd,Qe,Qf,Qg,Qh,Qi,Qj,Qk,Ql,Qm,Qn,true_and,and_true,Qo,Qp,Qq,Qr,Qs,Qt,Qu,Qv,Qw,Qx,Qy,Qz,Ra,Rb,Rc,Rd,Re,Rf,Rg,Rh,Ri,Rj,Rk,Rl,Rm,Ya,Yb,Yc,Rn,Ro,Rp,Yd,Ye,Rq,Rs,Rt,Ru,Rv,Rw,Rx]
      rw[← hW]
      refine ih (k+1) s' ow' h' (learnQ v a (ls.getD k 0)) _ _ _ (by omega) (by omega) H' (hI.step v hV) (hu.step st' (nm _ _ (by decide) (by decide) (by decide) (by decide))) (hkb.keep (st'.heap kb hlk (by rw[htk];exact nm _ _ (by decide) (by decide) (by decide) (by decide)))) (by rw[st'.tags kb hlk (by rw[htk];exact nm _ _ (by decide) (by decide) (by decide) (by decide))];exact htk) (by omega) hlp' hlo (by omega) (hst.trans st') ?_
      rw[hdr]at hR
      unfold rest at hR
      rw[List.filter_cons_of_pos (p:=fun q=>decide (q≠but)) hne]at hR
      exact hR
theorem not_mineL{p y i:Nat}(g1:y≠7)(g2:y≠20)(g3:y≠21)(g4:y≠23):¬ mineL p (p,y,i):=by
  rintro((e | e | e) | e)
  · exact tne g1 e
  · exact tne g2 e
  · exact tne g3 e
  · exact tne g4 e
theorem others_run{E:Env}(hE:Good E){ow:Ow}{s:ASt}{p:Nat}{x:Sf}{v:Sv}{N:Nat}{h:List Int}{a:Lst}(H:LAt ow s p x v N h a){n:Nat}(hn:n≤1000000)(hlev:v.level.length=n+1)(hheat:v.heat.length=n+1)(hI:LInv n a){c:Nat}{ls:List Int}{b:Bool×Bool}(hc:v.cl c=some (ls,b))(hls:ClsOk n ls){cb kb l d:Nat}{but:Int}
    {x1 x7 x8 x9 x10 x11 x12 x13 x14 x15 x16 x17 x18 x19 x20:AV} (hcb:Box1 s cb (ptrA c)) (hkb:Box1 s kb (iv but)) (htk:ow kb=(p,22,0)) (hlk:kb<s.next) (hlp:loopAt s l=some (loop67 p N x1 x7 x8 x9 x10 x11 x12 x13 x14 x15 x16 x17 x18 x19 x20 d)) (htl:ow l=(p,23,0)) (hll:l<s.next):
    WF E 111 [.yield l,.ptr (some (cb,0)),.ptr (some (kb,0))] (fun _ s'=>∃ow' h',LAt ow' s' p x v N h' ((rest but ls).foldl (learnQ v) a)∧LInv n ((rest but ls).foldl (learnQ v) a)∧loopAt s' l=some (loop67 p N x1 x7 x8 x9 x10 x11 x12 x13 x14 x15 x16 x17 x18 x19 x20 d)∧Step (mineL p) ow s ow' s'∧ow' l=(p,23,0)) s:=by
  obtain⟨u,hbox,ht1,hlc,hu⟩:=H.sat.cls c (ls,b) hc
  have lu:loadV Try.prog s 23 (.ptr (some (c,0)))=some u:=hbox.load rfl ag23
  have ln:∀s,lenA Try.prog s 23 u=some (iv (ls.length:Int)):=fun s=>by
    have:=hu.len Try.underlying23 s
    rw[List.length_map]at this
    exact this
  have lc:=hcb.load ag92
  simp only[ptrA]at lc
  refine hE.go comp111 (by decide) rfl ?_
  simp only[c111,c111o0,lc,nilCheck_ptr,fa104_0,lu,ln,Qa,Qb,Qc,Qd,Qe,Qf,Qg,Qh,Qi,Qj,Qk,Ql,Qm,Qn,true_and,and_true,Qo,Qp,Qq,Qr,Qs,Qt,Qu,Qv,Qw,Qx,Qy,Qz,Ra,Rb,Rc,Rd,Re,Rf,Rg,Rh,Ri,Rj,Rk,Rl,Rm,Ya,Yb,Yc,Rn,Ro,Rp,Yd,Ye,Rq,Rs,Rt,Ru,Rv,Rw,Rx]
  refine others_loop hE hn hlev hheat hls (c:=c) (l:=l) (d:=d) (R:=(rest but ls).foldl (learnQ v) a) ?_ _ 0 s ow h a _ _ _ rfl (Nat.zero_le _) H hI hu hkb htk hlk hlp htl hll (Step.refl _ _ _) (by rw[List.drop_zero])
  intro s' ow' h' y3 y7 y8 g1 g2 g3 g4 g5
  simp only[if_true,Qa,Qb,Qc,Qd,Qe,Qf,Qg,Qh,Qi,Qj,Qk,Ql,Qm,Qn,true_and,and_true,Qo,Qp,Qq,Qr,Qs,Qt,Qu,Qv,Qw,Qx,Qy,Qz,Ra,Rb,Rc,Rd,Re,Rf,Rg,Rh,Ri,Rj,Rk,Rl,Rm,Ya,Yb,Yc,Rn,Ro,Rp,Yd,Ye,Rq,Rs,Rt,Ru,Rv,Rw,Rx]
  exact⟨ow',h',g1,g2,g3,g4,g5⟩
def seek(tr:List Int)(seen:List Nat):Nat→Option Nat
  | 0=>none
  | k+1=>if (tr.getD k 0).natAbs∈seen then some k else seek tr seen k
theorem seek_lt{tr:List Int}{seen:List Nat}:∀ {k i:Nat},seek tr seen k=some i→i<k∧(tr.getD i 0).natAbs∈seen
  | 0,i,h=>by cases h
  | k+1,i,h=>by
    unfold seek at h
    split at h
    · injection h with h
      subst h
      exact⟨Nat.lt_succ_self _,by assumption⟩
    · obtain⟨h1,h2⟩:=seek_lt h
      exact⟨by omega,h2⟩
theorem search_loop{E:Env}(hE:Good E){ow:Ow}{s:ASt}{p:Nat}{x:Sf}{v:Sv}{N:Nat}{h:List Int}{a:Lst}(H:LAt ow s p x v N h a){n:Nat}(hf:Fit n v){i:Nat}{M:List Nat}{Q:ARes→Prop}{x1 x8 x9 x10 x11 x13 x14 x15 x16 x17 x19 x20:AV}
    (hq:∀y18,Q ⟨.exit 4,lvs p N x1 (iv (i:Int)) x8 x9 x10 x11 (.bool true) x13 x14 x15 x16 x17 y18 x19 x20,M,s⟩):
    ∀ (k:Nat) (x18:AV),k≤v.trail.length→seek v.trail a.seen k=some i→WC E none (.loop c67l21) Q (lvs p N x1 (iv (k:Int)) x8 x9 x10 x11 (.bool false) x13 x14 x15 x16 x17 x18 x19 x20) M s:=by
  have htr:Buf ow (p,9,0) s x.tr (ivs v.trail):=H.sat.trail
  have l1:=H.sb.load ag44
  simp only[ptrA]at l1
  intro k
  induction k with
  | zero=>intro x18 hk hs;cases hs
  | succ k ih =>
    intro x18 hk hs
    have hlt:k<v.trail.length:=hk
    have hg:=getD_get (d:=(0:Int)) hlt
    have hV:=hf.lits _ (List.mem_of_getElem? hg)
    have hsz:=hf.siz.small
    have htl:=hf.siz.trail
    have i1:=htr.addr Try.underlying23 sz3 (k:=k) (by rw[List.length_map];exact hlt)
    have i2:=htr.get (t:=3) ag3 (k:=k) (get_ivs hg)
    have e3:=bin_sub Try.prog 3 ((k+1:Nat):Int) 1 ⟨by omega,by omega⟩
    have e3':((k+1:Nat):Int) - 1=(k:Int):=by omega
    have eqm:eqA (.map (some (N+3))) (.map (some (N+3)))=true:=by simp[eqA]
    refine WC.loop' ?_
    generalize hW:WC E none (CCode.loop c67l21) Q=WW
    simp only[c67l21,c67o18,c67o19,c67o20,lvs,e3,e3',H.mb.load ag115,l1,nilCheck_ptr,fa91_7,H.sat.ld_tr,i1,i2,Qa,Qb,Qc,Qd,Qe,Qf,Qg,Qh,Qi,Qj,Qk,Ql,Qm,Qn,true_and,and_true,Qo,Qp,Qq,Qr,Qs,Qt,Qu,Qv,Qw,Qx,Qy,Qz,Ra,Rb,Rc,Rd,Re,Rf,Rg,Rh,Ri,Rj,Rk,Rl,Rm,Ya,Yb,Yc,Rn,Ro,Rp,Yd,Ye,Rq,Rs,Rt,Ru,Rv,Rw,Rx]
    refine(variable_ok hE (l:=v.trail.getD k 0) ⟨by have:=hV.2;omega,by have:=hV.2;omega⟩).mono ?_
    rintro _ _ ⟨rfl,rfl⟩
    unfold seek at hs
    by_cases hin:(v.trail.getD k 0).natAbs∈a.seen
    · rw[if_pos hin]at hs
      injection hs with hs
      subst hs
      simp only[again_r1,sameA_some,H.mb.load ag115,eqm,on2,lookup_seen H.mo,hin,decide_true,Qa,Qb,Qc,Qd,Qe,Qf,Qg,Qh,Qi,Qj,Qk,Ql,Qm,Qn,true_and,and_true,Qo,Qp,Qq,Qr,Qs,Qt,Qu,Qv,Qw,Qx,Qy,Qz,Ra,Rb,Rc,Rd,Re,Rf,Rg,Rh,Ri,Rj,Rk,Rl,Rm,Ya,Yb,Yc,Rn,Ro,Rp,Yd,Ye,Rq,Rs,Rt,Ru,Rv,Rw,Rx]
      rw[← hW]
      refine WC.loop' ?_
      generalize hW2:WC E none (CCode.loop c67l21) Q=WW2
      simp only[c67l21,c67o18,Qa,Qb,Qc,Qd,Qe,Qf,Qg,Qh,Qi,Qj,Qk,Ql,Qm,Qn,true_and,and_true,Qo,Qp,Qq,Qr,Qs,Qt,Qu,Qv,Qw,Qx,Qy,Qz,Ra,Rb,Rc,Rd,Re,Rf,Rg,Rh,Ri,Rj,Rk,Rl,Rm,Ya,Yb,Yc,Rn,Ro,Rp,Yd,Ye,Rq,Rs,Rt,Ru,Rv,Rw,Rx]
      exact hq _
    · rw[if_neg hin]at hs
      simp only[again_r1,sameA_some,H.mb.load ag115,eqm,on2,lookup_seen H.mo,hin,decide_false,Qa,Qb,Qc,Qd,Qe,Qf,Qg,Qh,Qi,Qj,Qk,Ql,Qm,Qn,true_and,and_true,Qo,Qp,Qq,Qr,Qs,Qt,Qu,Qv,Qw,Qx,Qy,Qz,Ra,Rb,Rc,Rd,Re,Rf,Rg,Rh,Ri,Rj,Rk,Rl,Rm,Ya,Yb,Yc,Rn,Ro,Rp,Yd,Ye,Rq,Rs,Rt,Ru,Rv,Rw,Rx]
      rw[← hW]
      exact ih _ (by omega) hs
section
variable{E:Env}{K:List AV→ASt→Prop}{ow:Ow}{s:ASt}{p:Nat}{x:Sf}{v:Sv}{N:Nat}{h:List Int}{a:Lst}
theorem L_o22(H:LAt ow s p x v N h a){k:Nat}(hk:k<v.trail.length){x1 x8 x9 x10 x11 x12 x13 x14 x15 x16 x17 x18 x19 x20:AV}(hK:K (lvs p N x1 (iv (k:Int)) (iv (v.trail.getD k 0)) x9 x10 x11 x12 x13 x14 x15 x16 x17 x18 x19 x20) s):
    Qb E c67o22 K [] (lvs p N x1 (iv (k:Int)) x8 x9 x10 x11 x12 x13 x14 x15 x16 x17 x18 x19 x20) s:=by
  have htr:Buf ow (p,9,0) s x.tr (ivs v.trail):=H.sat.trail
  have l1:=H.sb.load ag44
  simp only[ptrA]at l1
  have hg:=getD_get (d:=(0:Int)) hk
  have i1:=htr.addr Try.underlying23 sz3 (k:=k) (by rw[List.length_map];exact hk)
  have i2:=htr.get (t:=3) ag3 (k:=k) (get_ivs hg)
  simp only[c67o22,lvs,l1,nilCheck_ptr,fa91_7,H.sat.ld_tr,i1,i2,Qa,Qb,Qc,Qd,Qe,Qf,Qg,Qh,Qi,Qj,Qk,Ql,Qm,Qn,true_and,and_true,Qo,Qp,Qq,Qr,Qs,Qt,Qu,Qv,Qw,Qx,Qy,Qz,Ra,Rb,Rc,Rd,Re,Rf,Rg,Rh,Ri,Rj,Rk,Rl,Rm,Ya,Yb,Yc,Rn,Ro,Rp,Yd,Ye,Rq,Rs,Rt,Ru,Rv,Rw,Rx]
  exact hK
theorem L_o23(hE:Good E)(H:LAt ow s p x v N h a){q:Int}(hq:q.natAbs<v.why.length)(hs:v.why.length<1000000000){x1 x7 x9 x10 x11 x12 x13 x14 x15 x16 x17 x18 x19 x20:AV}(hK:K (lvs p N (whyA (v.why.getD q.natAbs none)) x7 (iv q) x9 x10 x11 x12 x13 x14 x15 x16 x17 x18 x19 x20) s):
    Qb E c67o23 K [] (lvs p N x1 x7 (iv q) x9 x10 x11 x12 x13 x14 x15 x16 x17 x18 x19 x20) s:=by
  have hw:Buf ow (p,6,0) s x.why (v.why.map whyA):=H.sat.why
  have l1:=H.sb.load ag44
  simp only[ptrA]at l1
  have hg:=getD_get (d:=(none:Option Nat)) hq
  have i1:=hw.addr Try.underlying89 sz92 (k:=q.natAbs) (by rw[List.length_map];exact hq)
  have i2:=hw.get (t:=92) ag92 (k:=q.natAbs) (by rw[List.getElem?_map,hg];rfl)
  have eqp:eqA (.ptr (some (p,0))) (.ptr (some (p,0)))=true:=by simp[eqA]
  simp only[c67o23,lvs,l1,nilCheck_ptr,fa91_4,H.sat.ld_why,Qa,Qb,Qc,Qd,Qe,Qf,Qg,Qh,Qi,Qj,Qk,Ql,Qm,Qn,true_and,and_true,Qo,Qp,Qq,Qr,Qs,Qt,Qu,Qv,Qw,Qx,Qy,Qz,Ra,Rb,Rc,Rd,Re,Rf,Rg,Rh,Ri,Rj,Rk,Rl,Rm,Ya,Yb,Yc,Rn,Ro,Rp,Yd,Ye,Rq,Rs,Rt,Ru,Rv,Rw,Rx]
  refine(variable_ok hE (l:=q) ⟨by omega,by omega⟩).mono ?_
  rintro _ _ ⟨rfl,rfl⟩
  simp only[again_r1,sameA_some,l1,eqp,H.sat.ld_why,hw.self,i1,i2,Qa,Qb,Qc,Qd,Qe,Qf,Qg,Qh,Qi,Qj,Qk,Ql,Qm,Qn,true_and,and_true,Qo,Qp,Qq,Qr,Qs,Qt,Qu,Qv,Qw,Qx,Qy,Qz,Ra,Rb,Rc,Rd,Re,Rf,Rg,Rh,Ri,Rj,Rk,Rl,Rm,Ya,Yb,Yc,Rn,Ro,Rp,Yd,Ye,Rq,Rs,Rt,Ru,Rv,Rw,Rx]
  exact hK
theorem L_o24(H:LAt ow s p x v N h a)(ho:0≤a.opn∧a.opn<1000000000){x1 x7 x8 x9 x10 x11 x12 x13 x14 x15 x16 x17 x18 x19 x20:AV}(hK:∀s',LAt ow s' p x v N h { a with opn:=a.opn - 1 }→Step (mineQ p) ow s ow s'→s'.next=s.next→K (lvs p N x1 x7 x8 x9 x10 x11 x12 x13 x14 x15 x16 x17 x18 x19 x20) s'):
    Qb E c67o24 K [] (lvs p N x1 x7 x8 x9 x10 x11 x12 x13 x14 x15 x16 x17 x18 x19 x20) s:=by
  obtain⟨s',g1,g2,g3,g4⟩:=H.setOpn (a.opn - 1)
  have e3:=bin_sub Try.prog 3 a.opn 1 ⟨by omega,by omega⟩
  simp only[c67o24,lvs,H.ob.load ag3,e3,on2,g1,withV,Qa,Qb,Qc,Qd,Qe,Qf,Qg,Qh,Qi,Qj,Qk,Ql,Qm,Qn,true_and,and_true,Qo,Qp,Qq,Qr,Qs,Qt,Qu,Qv,Qw,Qx,Qy,Qz,Ra,Rb,Rc,Rd,Re,Rf,Rg,Rh,Ri,Rj,Rk,Rl,Rm,Ya,Yb,Yc,Rn,Ro,Rp,Yd,Ye,Rq,Rs,Rt,Ru,Rv,Rw,Rx]
  exact hK s' g2 g3 g4
theorem L_o25(H:LAt ow s p x v N h a){x1 x7 x8 x9 x10 x11 x12 x13 x14 x15 x16 x17 x18 x19 x20:AV}(hK:K (lvs p N x1 x7 x8 x9 x10 x11 x12 x13 x14 x15 x16 x17 x18 (.bool (decide (a.opn=0))) x20) s):
    Qb E c67o25 K [] (lvs p N x1 x7 x8 x9 x10 x11 x12 x13 x14 x15 x16 x17 x18 x19 x20) s:=by
  simp only[c67o25,lvs,H.ob.load ag3,Qa,Qb,Qc,Qd,Qe,Qf,Qg,Qh,Qi,Qj,Qk,Ql,Qm,Qn,true_and,and_true,Qo,Qp,Qq,Qr,Qs,Qt,Qu,Qv,Qw,Qx,Qy,Qz,Ra,Rb,Rc,Rd,Re,Rf,Rg,Rh,Ri,Rj,Rk,Rl,Rm,Ya,Yb,Yc,Rn,Ro,Rp,Yd,Ye,Rq,Rs,Rt,Ru,Rv,Rw,Rx]
  exact hK
theorem L_o26(H:LAt ow s p x v N h a){q:Int}(hq:i64 (-q)){x1 x7 x9 x10 x11 x12 x13 x14 x15 x16 x17 x18 x19 x20:AV}(hK:∀s',LAt ow s' p x v N h { a with hd:=-q }→Step (mineQ p) ow s ow s'→s'.next=s.next→K (lvs p N x1 x7 (iv q) x9 x10 x11 x12 x13 x14 x15 x16 x17 x18 x19 x20) s'):
    Qb E c67o26 K [] (lvs p N x1 x7 (iv q) x9 x10 x11 x12 x13 x14 x15 x16 x17 x18 x19 x20) s:=by
  obtain⟨lv,b1,b2⟩:=H.lb
  have e1:=un_neg Try.prog q hq
  have i0:indexAddrA Try.prog 23 lv (iv 0)=some (addrOf lv 0):=b2.addr Try.underlying23 sz3 (k:=0) (by simp)
  obtain⟨s',g1,g2,g3,g4⟩:=b2.set (t:=3) sz3 (k:=0) (x:=iv (-q)) (by simp) rfl rfl
  have hlt:=H.lt
  have g:∀j,N≤j→j≤N+6→j≠N+5→s'.heap.get j=s.heap.get j:=fun j q1 q2 q3=>g3.heap j (by omega) (by rw[H.tg j q1 q2 q3];exact tne (by decide))
  simp only[c67o26,lvs,b1.load ag23,e1,i0,on2,g1,withV,Qa,Qb,Qc,Qd,Qe,Qf,Qg,Qh,Qi,Qj,Qk,Ql,Qm,Qn,true_and,and_true,Qo,Qp,Qq,Qr,Qs,Qt,Qu,Qv,Qw,Qx,Qy,Qz,Ra,Rb,Rc,Rd,Re,Rf,Rg,Rh,Ri,Rj,Rk,Rl,Rm,Ya,Yb,Yc,Rn,Ro,Rp,Yd,Ye,Rq,Rs,Rt,Ru,Rv,Rw,Rx]
  refine hK s' { sat:=H.sat.keep16 g3 (fun y i hy e=>by injection e with _ e;injection e with e _;omega),hl:=H.hl,sb:=H.sb.keep (g _ (by omega) (by omega) (by omega)),lb:=⟨lv,b1.keep (g _ (by omega) (by omega) (by omega)),g2⟩,vb:=H.vb.keep (g _ (by omega) (by omega) (by omega)),mo:=H.mo.keep (g _ (by omega) (by omega) (by omega)),mb:=H.mb.keep (g _ (by omega) (by omega) (by omega)),ob:=H.ob.keep (g _ (by omega) (by omega) (by omega)),tg:=H.tg,lt:=by omega } (g3.mono fun t ht=>.inr (.inl ht)) g4
end
def MarksAt(ow:Ow)(s:ASt)(p:Nat)(M:List Nat):Prop:=M.Nodup∧∀i∈M,s.heap.get i=some .mark∧ow i=(p,22,0)∧i<s.next
theorem MarksAt.step{ow ow':Ow}{s s':ASt}{p:Nat}{M:List Nat}{m:Tag→Prop}(h:MarksAt ow s p M)(k:Step m ow s ow' s')(hm:¬ m (p,22,0)):MarksAt ow' s' p M:=by
  have hn:=k.next
  refine⟨h.1,fun i hi=>?_⟩
  obtain⟨h1,h2,h3⟩:=h.2 i hi
  exact⟨(k.heap i h3 (by rw[h2];exact hm)).trans h1,(k.tags i h3 (by rw[h2];exact hm)).trans h2,by omega⟩
theorem unmark_all:∀ (M:List Nat)(s:ASt),M.Nodup→(∀i∈M,s.heap.get i=some .mark)→∃s',unmark s M=some s'∧s'.next=s.next∧∀j,j ∉ M→s'.heap.get j=s.heap.get j
  | [],s,_,_=>⟨s,rfl,rfl,fun _ _=>rfl⟩
  | i::M,s,h1,h2=>by
    rw[List.nodup_cons]at h1
    obtain⟨s',g1,g2,g3⟩:=unmark_all M (delObj s i) h1.2 (fun j hj=>by
      rw[heap_del,if_neg (fun e=>h1.1 (by rw[← e];exact hj))]
      exact h2 j (List.mem_cons_of_mem _ hj))
    refine⟨s',?_,g2,fun j hj=>?_⟩
    · have:=h2 i (List.mem_cons_self ..)
      simp only[unmark,this]
      exact g1
    · rw[g3 j (fun q=>hj (List.mem_cons_of_mem _ q)),heap_del,if_neg (fun e=>hj (by rw[e];exact List.mem_cons_self ..))]
theorem MarksAt.unmark{ow:Ow}{s:ASt}{p:Nat}{M:List Nat}(h:MarksAt ow s p M):∃s',Go.Proofs.Ytilhhmkdcoajnaa.Am.unmark s M=some s'∧s'.next=s.next∧Step (· = (p,22,0)) ow s ow s':=by
  obtain⟨s',g1,g2,g3⟩:=unmark_all M s h.1 (fun i hi=>(h.2 i hi).1)
  exact⟨s',g1,g2,by omega,fun _ _ _=>rfl,fun y hy hm=>g3 y fun q=>hm (h.2 y q).2.1⟩
inductive LearnR (v:Sv):Nat→Lst→Nat→Int→Lst→Prop
  | last {c:Nat} {a a':Lst} {at_ i:Nat} {l:Int} {ls:List Int} {b:Bool×Bool} (hc:v.cl c=some (ls,b)) (ha:(rest l ls).foldl (learnQ v) a=a') (hs:seek v.trail a'.seen at_=some i) (ho:a'.opn=1):LearnR v c a at_ l { a' with opn:=0,hd:=-(v.trail.getD i 0) }
  | more {c c':Nat} {a a' r:Lst} {at_ i:Nat} {l:Int} {ls:List Int} {b:Bool×Bool} (hc:v.cl c=some (ls,b)) (ha:(rest l ls).foldl (learnQ v) a=a') (hs:seek v.trail a'.seen at_=some i) (ho:2≤a'.opn) (hw:v.why.getD (v.trail.getD i 0).natAbs none=some c') (hr:LearnR v c' { a' with opn:=a'.opn - 1 } i (v.trail.getD i 0) r):LearnR v c a at_ l r
theorem learn_turn {E : Env} (hE : Good E) {ow : Ow} {s : ASt} {p : Nat} {x : Sf} {v : Sv} {N : Nat} {h : List Int} {a : Lst} (H : LAt ow s p x v N h a) {n : Nat} (hn : n ≤ 1000000) (hf : Fit n v) (hI : LInv n a) {c : Nat} {ls : List Int} {b : Bool × Bool} (hc : v.cl c = some (ls, b)) (hls : ClsOk n ls) {at_ i : Nat} {l : Int} {a' : Lst} (ha : (rest l ls).foldl (learnQ v) a = a') (hat : at_ ≤ v.trail.length) (hs : seek v.trail a'.seen at_ = some i) (ho : 1 ≤ a'.opn) {M : List Nat} (hM : MarksAt ow s p M)
    {x9 x10 x11 x12 x13 x14 x15 x16 x17 x18 x19 x20:AV} {Q:ARes→Prop}
    (hlast:a'.opn=1→∀s' ow' h' M' y1 y7 y8 y9 y10 y11 y12 y13 y14 y15 y16 y17 y18 y19 y20,LAt ow' s' p x v N h' { a' with opn:=0,hd:=-(v.trail.getD i 0) }→LInv n { a' with opn:=0,hd:=-(v.trail.getD i 0) }→MarksAt ow' s' p M'→Step (mineL p) ow s ow' s'→Q ⟨.exit 0,lvs p N y1 y7 y8 y9 y10 y11 y12 y13 y14 y15 y16 y17 y18 y19 y20,M',s'⟩)
    (hmore:a'.opn≠1→∀s' ow' h' M' y9 y10 y11 y12 y13 y14 y15 y16 y17 y18 y19 y20,LAt ow' s' p x v N h' { a' with opn:=a'.opn - 1 }→LInv n { a' with opn:=a'.opn - 1 }→MarksAt ow' s' p M'→Step (mineL p) ow s ow' s'→WC E none (.loop c67l27) Q (lvs p N (whyA (v.why.getD (v.trail.getD i 0).natAbs none)) (iv (i:Int)) (iv (v.trail.getD i 0)) y9 y10 y11 y12 y13 y14 y15 y16 y17 y18 y19 y20) M' s'):
    WC E none (.loop c67l27) Q (lvs p N (ptrA c) (iv (at_:Int)) (iv l) x9 x10 x11 x12 x13 x14 x15 x16 x17 x18 x19 x20) M s:=by
  refine WC.loop' ?_
  generalize hW:WC E none (CCode.loop c67l27) Q=WW at hmore ⊢
  simp only[c67l27,c67o5,lvs,Qa,Qb,Qc,Qd,Qe,Qf,Qg,Qh,Qi,Qj,Qk,Ql,Qm,Qn,true_and,and_true,Qo,Qp,Qq,Qr,Qs,Qt,Qu,Qv,Qw,Qx,Qy,Qz,Ra,Rb,Rc,Rd,Re,Rf,Rg,Rh,Ri,Rj,Rk,Rl,Rm,Ya,Yb,Yc,Rn,Ro,Rp,Yd,Ye,Rq,Rs,Rt,Ru,Rv,Rw,Rx]
  refine(others_ok hE c l).mono ?_
  rintro _ s1 ⟨rfl,rfl⟩
  simp only[Qa,Qb,Qc,Qd,Qe,Qf,Qg,Qh,Qi,Qj,Qk,Ql,Qm,Qn,true_and,and_true,Qo,Qp,Qq,Qr,Qs,Qt,Qu,Qv,Qw,Qx,Qy,Qz,Ra,Rb,Rc,Rd,Re,Rf,Rg,Rh,Ri,Rj,Rk,Rl,Rm,Ya,Yb,Yc,Rn,Ro,Rp,Yd,Ye,Rq,Rs,Rt,Ru,Rv,Rw,Rx]
  generalize hsa:newObj s (mkRow 92 0 [ptrA c])=sa
  have na:sa.next=s.next+1:=by rw[← hsa];rfl
  have oa:Old s.next s sa:=by rw[← hsa];exact Old.new s _
  have ba:Box1 sa s.next (ptrA c):=by rw[← hsa];exact Box1.new
  generalize hsb:newObj sa (mkRow 3 0 [iv l])=sb
  have nb:sb.next=s.next+2:=by rw[← hsb];show sa.next+1=_;omega
  have ob:Old (s.next+1) sa sb:=by rw[← hsb,← na];exact Old.new sa _
  have bb:Box1 sb (s.next+1) (iv l):=by rw[← hsb,← na];exact Box1.new
  refine WC.range (g:=111) (first:=[]) (cap:=[.ptr (some (s.next,0)),.ptr (some (s.next+1,0))]) rfl ?_
  rw[nb]
  generalize hsc:newObj sb .mark=sc
  have nc:sc.next=s.next+3:=by rw[← hsc];show sb.next+1=_;omega
  have oc:Old (s.next+2) sb sc:=by rw[← hsc,← nb];exact Old.new sb _
  have mc:sc.heap.get (s.next+2)=some .mark:=by rw[← hsc,heap_new,if_pos nb.symm]
  generalize hsd:newObj sc (.loop (loopObj 67 _ _ _ _ _))=sd
  have nd:sd.next=s.next+4:=by rw[← hsd];show sc.next+1=_;omega
  have od:Old (s.next+3) sc sd:=by rw[← hsd,← nc];exact Old.new sc _
  have ld:loopAt sd (s.next+2+1)=some (loop67 p N (ptrA c) (iv (at_:Int)) (iv l) x9 x10 x11 x12 x13 (.func 111 [] [.ptr (some (s.next,0)),.ptr (some (s.next+1,0))]) x15 x16 x17 x18 x19 x20 (s.next+2)):=by
    rw[← hsd]
    unfold loopAt
    rw[heap_new,if_pos (by omega)]
    rfl
  have osd:Old s.next s sd:=((oa.trans (ob.mono (by omega))).trans (oc.mono (by omega))).trans (od.mono (by omega))
  have st0:Step (fun _=>False) ow s (fun j=>if j<s.next then ow j else if j=s.next+3 then (p,23,0)else (p,22,0)) sd:=⟨by omega,fun j hj _=>if_pos hj,fun j hj _=>osd.2 j hj⟩
  generalize how:(fun j=>if j<s.next then ow j else if j=s.next+3 then (p,23,0)else (p,22,0):Ow)=owd at st0
  have tk:owd (s.next+1)=(p,22,0):=by rw[← how];show(if _ then _ else if _ then _ else _:Tag)=_;rw[if_neg (by omega),if_neg (by omega)]
  have tm:owd (s.next+2)=(p,22,0):=by rw[← how];show(if _ then _ else if _ then _ else _:Tag)=_;rw[if_neg (by omega),if_neg (by omega)]
  have tl:owd (s.next+2+1)=(p,23,0):=by rw[← how];show(if _ then _ else if _ then _ else _:Tag)=_;rw[if_neg (by omega),if_pos (by omega)]
  have Hd:LAt owd sd p x v N h a:=H.keep st0 (fun _ _ _ q=>q) (fun q=>q) (fun q=>q)
  have Md:MarksAt owd sd p M:=hM.step st0 (fun q=>q)
  have M2:MarksAt owd sd p ((s.next+2)::M):=by
    refine⟨?_,fun i hi=>?_⟩
    · rw[List.nodup_cons]
      exact⟨fun q=>by have:=(hM.2 _ q).2.2;omega,hM.1⟩
    · rcases List.mem_cons.1 hi with e | e
      · rw[e]
        exact⟨by rw[od.2 _ (by omega)];exact mc,tm,by omega⟩
      · exact Md.2 i e
  have bad:Box1 sd s.next (ptrA c):=ba.keep (by rw[od.2 _ (by omega),oc.2 _ (by omega),ob.2 _ (by omega)])
  have bbd:Box1 sd (s.next+1) (iv l):=bb.keep (by rw[od.2 _ (by omega),oc.2 _ (by omega)])
  have hz:=hf.siz
  refine(others_run hE Hd hn hz.level hz.heat hI hc hls bad bbd tk (by omega) ld tl (by omega)).mono ?_
  rintro _ s2 ⟨ow2,h2,H2,I2,l2,st2,t2⟩
  rw[ha]at H2 I2
  have n2:=st2.next
  refine⟨_,l2,rfl,?_⟩
  have st3:Step (· = (p,23,0)) ow2 s2 ow2 (setObj s2 (s.next+2+1) (.loop { loop67 p N (ptrA c) (iv (at_:Int)) (iv l) x9 x10 x11 x12 x13 (.func 111 [] [.ptr (some (s.next,0)),.ptr (some (s.next+1,0))]) x15 x16 x17 x18 x19 x20 (s.next+2)with state:=.exhausted })):=⟨Nat.le_refl _,fun _ _ _=>rfl,fun y _ hm=>by rw[heap_set,if_neg (fun e=>hm (by rw[e];exact t2))]⟩
  have H3:=H2.keep st3 (fun y i hy e=>by injection e with _ e;injection e with e _;omega) (tne (by decide)) (tne (by decide))
  have M3:MarksAt ow2 _ p ((s.next+2)::M):=(M2.step st2 (not_mineL (by decide) (by decide) (by decide) (by decide))).step st3 (tne (by decide))
  have stT:Step (mineL p) ow s ow2 (setObj s2 (s.next+2+1) (.loop { loop67 p N (ptrA c) (iv (at_:Int)) (iv l) x9 x10 x11 x12 x13 (.func 111 [] [.ptr (some (s.next,0)),.ptr (some (s.next+1,0))]) x15 x16 x17 x18 x19 x20 (s.next+2)with state:=.exhausted })):=((st0.mono fun _ q=>q.elim).trans st2).trans (st3.mono fun t ht=>.inr ht)
  show PendK _ _ _ _ none
  unfold PendK
  generalize setObj s2 (s.next+2+1) _=s3 at *
  obtain⟨hi,hin⟩:=seek_lt hs
  have hil:i<v.trail.length:=by omega
  have hg:=getD_get (d:=(0:Int)) hil
  have hV:=hf.lits _ (List.mem_of_getElem? hg)
  have hsz:=hz.small
  have hV2:=hV.2
  have hwl:=hz.why
  simp only[c67o17,Qa,Qb,Qc,Qd,Qe,Qf,Qg,Qh,Qi,Qj,Qk,Ql,Qm,Qn,true_and,and_true,Qo,Qp,Qq,Qr,Qs,Qt,Qu,Qv,Qw,Qx,Qy,Qz,Ra,Rb,Rc,Rd,Re,Rf,Rg,Rh,Ri,Rj,Rk,Rl,Rm,Ya,Yb,Yc,Rn,Ro,Rp,Yd,Ye,Rq,Rs,Rt,Ru,Rv,Rw,Rx]
  refine search_loop hE H3 hf (i:=i) ?_ at_ _ hat hs
  intro y18
  simp only[if_true,Qa,Qb,Qc,Qd,Qe,Qf,Qg,Qh,Qi,Qj,Qk,Ql,Qm,Qn,true_and,and_true,Qo,Qp,Qq,Qr,Qs,Qt,Qu,Qv,Qw,Qx,Qy,Qz,Ra,Rb,Rc,Rd,Re,Rf,Rg,Rh,Ri,Rj,Rk,Rl,Rm,Ya,Yb,Yc,Rn,Ro,Rp,Yd,Ye,Rq,Rs,Rt,Ru,Rv,Rw,Rx]
  refine L_o22 H3 hil ?_
  try simp only[Qa,Qb,Qc,Qd,Qe,Qf,Qg,Qh,Qi,Qj,Qk,Ql,Qm,Qn,true_and,and_true,Qo,Qp,Qq,Qr,Qs,Qt,Qu,Qv,Qw,Qx,Qy,Qz,Ra,Rb,Rc,Rd,Re,Rf,Rg,Rh,Ri,Rj,Rk,Rl,Rm,Ya,Yb,Yc,Rn,Ro,Rp,Yd,Ye,Rq,Rs,Rt,Ru,Rv,Rw,Rx]
  refine L_o23 hE H3 (q:=v.trail.getD i 0) (by omega) (by omega) ?_
  try simp only[Qa,Qb,Qc,Qd,Qe,Qf,Qg,Qh,Qi,Qj,Qk,Ql,Qm,Qn,true_and,and_true,Qo,Qp,Qq,Qr,Qs,Qt,Qu,Qv,Qw,Qx,Qy,Qz,Ra,Rb,Rc,Rd,Re,Rf,Rg,Rh,Ri,Rj,Rk,Rl,Rm,Ya,Yb,Yc,Rn,Ro,Rp,Yd,Ye,Rq,Rs,Rt,Ru,Rv,Rw,Rx]
  have hop:=I2.opn
  have hsm:=I2.small
  refine L_o24 H3 (by omega) ?_
  intro s4 H4 st4 n4
  try simp only[Qa,Qb,Qc,Qd,Qe,Qf,Qg,Qh,Qi,Qj,Qk,Ql,Qm,Qn,true_and,and_true,Qo,Qp,Qq,Qr,Qs,Qt,Qu,Qv,Qw,Qx,Qy,Qz,Ra,Rb,Rc,Rd,Re,Rf,Rg,Rh,Ri,Rj,Rk,Rl,Rm,Ya,Yb,Yc,Rn,Ro,Rp,Yd,Ye,Rq,Rs,Rt,Ru,Rv,Rw,Rx]
  refine L_o25 H4 ?_
  have I4:LInv n { a' with opn:=a'.opn - 1 }:=⟨I2.nodup,I2.mem,I2.len,I2.lits,by show 0≤a'.opn - 1∧a'.opn - 1≤(a'.seen.length:Int);omega⟩
  have M4:MarksAt ow2 s4 p ((s.next+2)::M):=M3.step st4 (fun q=>not_mineL (by decide) (by decide) (by decide) (by decide) (.inl q))
  have stT4:=stT.trans (st4.mono fun t ht=>.inl ht)
  by_cases h1:a'.opn=1
  · have hd0:decide (a'.opn - 1=0)=true:=decide_eq_true (by omega)
    simp only[hd0,Qa,Qb,Qc,Qd,Qe,Qf,Qg,Qh,Qi,Qj,Qk,Ql,Qm,Qn,true_and,and_true,Qo,Qp,Qq,Qr,Qs,Qt,Qu,Qv,Qw,Qx,Qy,Qz,Ra,Rb,Rc,Rd,Re,Rf,Rg,Rh,Ri,Rj,Rk,Rl,Rm,Ya,Yb,Yc,Rn,Ro,Rp,Yd,Ye,Rq,Rs,Rt,Ru,Rv,Rw,Rx]
    refine L_o26 H4 (q:=v.trail.getD i 0) ⟨by omega,by omega⟩ ?_
    intro s5 H5 st5 n5
    simp only[show(0:Nat)≠1 by decide,if_false,Qa,Qb,Qc,Qd,Qe,Qf,Qg,Qh,Qi,Qj,Qk,Ql,Qm,Qn,true_and,and_true,Qo,Qp,Qq,Qr,Qs,Qt,Qu,Qv,Qw,Qx,Qy,Qz,Ra,Rb,Rc,Rd,Re,Rf,Rg,Rh,Ri,Rj,Rk,Rl,Rm,Ya,Yb,Yc,Rn,Ro,Rp,Yd,Ye,Rq,Rs,Rt,Ru,Rv,Rw,Rx]
    have e:({ ({ a' with opn:=a'.opn - 1 }:Lst)with hd:=-(v.trail.getD i 0) }:Lst)={ a' with opn:=0,hd:=-(v.trail.getD i 0) }:=by
      show Lst.mk _ _ _ _ _=Lst.mk _ _ _ _ _
      rw[h1];rfl
    rw[e]at H5
    exact hlast h1 s5 ow2 h2 _ _ _ _ _ _ _ _ _ _ _ _ _ _ _ _ H5 ⟨I2.nodup,I2.mem,I2.len,I2.lits,by show(0:Int)≤0∧(0:Int)≤(a'.seen.length:Int);omega⟩ (M4.step st5 (fun q=>not_mineL (by decide) (by decide) (by decide) (by decide) (.inl q))) (stT4.trans (st5.mono fun t ht=>.inl ht))
  · have hd0:decide (a'.opn - 1=0)=false:=decide_eq_false (by omega)
    simp only[hd0,Qa,Qb,Qc,Qd,Qe,Qf,Qg,Qh,Qi,Qj,Qk,Ql,Qm,Qn,true_and,and_true,Qo,Qp,Qq,Qr,Qs,Qt,Qu,Qv,Qw,Qx,Qy,Qz,Ra,Rb,Rc,Rd,Re,Rf,Rg,Rh,Ri,Rj,Rk,Rl,Rm,Ya,Yb,Yc,Rn,Ro,Rp,Yd,Ye,Rq,Rs,Rt,Ru,Rv,Rw,Rx]
    exact hmore h1 s4 ow2 h2 _ _ _ _ _ _ _ _ _ _ _ _ _ H4 I4 M4 stT4
theorem learn_loop{E:Env}(hE:Good E){ow0:Ow}{s0:ASt}{p:Nat}{x:Sf}{v:Sv}{N:Nat}{n:Nat}(hn:n≤1000000)(hf:Fit n v)(hcl:∀c ls b,v.cl c=some (ls,b)→ClsOk n ls){r:Lst}{Q:ARes→Prop}
    (hq:∀s' ow' h' M' y1 y7 y8 y9 y10 y11 y12 y13 y14 y15 y16 y17 y18 y19 y20,LAt ow' s' p x v N h' r→LInv n r→MarksAt ow' s' p M'→Step (mineL p) ow0 s0 ow' s'→Q ⟨.exit 0,lvs p N y1 y7 y8 y9 y10 y11 y12 y13 y14 y15 y16 y17 y18 y19 y20,M',s'⟩) {c at_:Nat} {a:Lst} {l:Int} (hr:LearnR v c a at_ l r):
    ∀ (s:ASt) (ow:Ow) (h:List Int) (M:List Nat) (x9 x10 x11 x12 x13 x14 x15 x16 x17 x18 x19 x20:AV),at_≤v.trail.length→LAt ow s p x v N h a→LInv n a→MarksAt ow s p M→Step (mineL p) ow0 s0 ow s →
      WC E none (.loop c67l27) Q (lvs p N (ptrA c) (iv (at_:Int)) (iv l) x9 x10 x11 x12 x13 x14 x15 x16 x17 x18 x19 x20) M s:=by
  induction hr with
  | last hc ha hs ho =>
    intro s ow h M x9 x10 x11 x12 x13 x14 x15 x16 x17 x18 x19 x20 hat H hI hM hst
    refine learn_turn hE H hn hf hI hc (hcl _ _ _ hc) ha hat hs (by omega) hM ?_ ?_
    · intro _ s' ow' h' M' y1 y7 y8 y9 y10 y11 y12 y13 y14 y15 y16 y17 y18 y19 y20 g1 g2 g3 g4
      exact hq s' ow' h' M' _ _ _ _ _ _ _ _ _ _ _ _ _ _ _ g1 g2 g3 (hst.trans g4)
    · intro q
      exact absurd ho q
  | more hc ha hs ho hw hr ih =>
    intro s ow h M x9 x10 x11 x12 x13 x14 x15 x16 x17 x18 x19 x20 hat H hI hM hst
    refine learn_turn hE H hn hf hI hc (hcl _ _ _ hc) ha hat hs (by omega) hM ?_ ?_
    · intro q
      omega
    · intro _ s' ow' h' M' y9 y10 y11 y12 y13 y14 y15 y16 y17 y18 y19 y20 g1 g2 g3 g4
      rw[hw]
      exact ih hq s' ow' h' M' _ _ _ _ _ _ _ _ _ _ _ _ (by have:=(seek_lt hs).1;omega) g1 g2 g3 (hst.trans g4)
end
end Go.Proofs.Ytilhhmkdcoajnaa.Am
