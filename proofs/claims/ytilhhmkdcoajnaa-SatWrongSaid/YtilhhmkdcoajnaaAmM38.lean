/- The solver in plain Lean: what is watched; a clause is looked at; conditions: none. -/
import Derived.Test.YtilhhmkdcoajnaaAmM37
set_option linter.unusedVariables false
set_option linter.unusedSimpArgs false
set_option maxRecDepth 16000
namespace Go.Proofs.Ytilhhmkdcoajnaa.Am
open Go Go.Proofs
noncomputable section
abbrev lv(v:Sv)(x:Int):Int:=v.level.getD x.natAbs 0
def Wok(v:Sv)(h:Nat)(ls:List Int):Prop:=(-(ls.getD 0 0)∈v.trail.take h→ls.getD 1 0∈v.trail∧lv v (ls.getD 1 0)≤lv v (ls.getD 0 0))∧(-(ls.getD 1 0)∈v.trail.take h→ls.getD 0 0∈v.trail∧lv v (ls.getD 0 0)≤lv v (ls.getD 1 0))
theorem mem_take_mono{l:List Int}{i j:Nat}(h:i≤j){x:Int}(hx:x∈l.take i):x∈l.take j:=by
  obtain⟨k,h1,h2⟩:=mem_tk.1 hx
  exact mem_tk.2 ⟨k,by omega,h2⟩
theorem Wok.mono{v:Sv}{h h':Nat}{ls:List Int}(k:Wok v h ls)(hh:h'≤h):Wok v h' ls:=⟨fun q=>k.1 (mem_take_mono hh q),fun q=>k.2 (mem_take_mono hh q)⟩
structure CW(v:Sv)(h:Nat)(X:List Nat):Prop where
  wat:∀c ls b,v.cl c=some (ls,b)→2≤ls.length→c∈v.watches.getD (place (ls.getD 0 0)) []∧c∈v.watches.getD (place (ls.getD 1 0)) []
  wcl:∀ (k:Nat) c ls b,c∈v.watches.getD k []→v.cl c=some (ls,b)→k=place (ls.getD 0 0)∨k=place (ls.getD 1 0)
  wnd:∀k,(v.watches.getD k []).Nodup
  wok:∀c ls b,v.cl c=some (ls,b)→2≤ls.length→Wok v (h - 1) ls∧(c ∉ X→Wok v h ls)
theorem CW.weak{v:Sv}{h h':Nat}{X:List Nat}(k:CW v h X)(hh:h'≤h - 1):CW v h' []:=
  ⟨k.wat,k.wcl,k.wnd,fun c ls b hc h2=>⟨(k.wok c ls b hc h2).1.mono (by omega),fun _=>(k.wok c ls b hc h2).1.mono hh⟩⟩
theorem CW.less{v:Sv}{h h':Nat}(k:CW v h [])(hh:h'≤h):CW v h' []:=
  ⟨k.wat,k.wcl,k.wnd,fun c ls b hc h2=>⟨((k.wok c ls b hc h2).2 (by simp)).mono (by omega),fun _=>((k.wok c ls b hc h2).2 (by simp)).mono hh⟩⟩
def ClSame(a b:Nat→Option Clause):Prop:=∀c,(a c=none→b c=none)∧∀ls t,a c=some (ls,t)→∃ls',b c=some (ls',t)∧ls'.Perm ls
theorem ClSame.refl(a:Nat→Option Clause):ClSame a a:=fun c=>⟨fun h=>h,fun ls t h=>⟨ls,h,List.Perm.refl _⟩⟩
theorem ClSame.trans{a b d:Nat→Option Clause}(h:ClSame a b)(k:ClSame b d):ClSame a d:=fun c=>⟨fun q=>(k c).1 ((h c).1 q),fun ls t q=>by
  obtain⟨l1,q1,q2⟩:=(h c).2 ls t q
  obtain⟨l2,q3,q4⟩:=(k c).2 l1 t q1
  exact⟨l2,q3,q4.trans q2⟩⟩
theorem ClSame.back{a b:Nat→Option Clause}(h:ClSame a b){c:Nat}{ls:List Int}{t:Bool×Bool}(k:b c=some (ls,t)):∃ls',a c=some (ls',t)∧ls.Perm ls':=by
  cases hc:a c with
  | none=>rw[(h c).1 hc]at k;cases k
  | some l =>
    obtain⟨ls',t'⟩:=l
    obtain⟨l2,q1,q2⟩:=(h c).2 ls' t' hc
    rw[k]at q1
    injection q1 with q1
    injection q1 with q1 q1'
    subst q1;subst q1'
    exact⟨ls',rfl,q2⟩
theorem ClSame.put{a:Nat→Option Clause}{c:Nat}{ls ls':List Int}{t:Bool×Bool}(h:a c=some (ls,t))(hp:ls'.Perm ls):ClSame a (clPut a c (ls',t)):=fun d=>by
  unfold clPut
  by_cases e:d=c
  · rw [if_pos e, e]
    refine⟨fun q=>(by rw[h]at q;cases q),fun ms u q=>?_⟩
    rw[h]at q
    injection q with q
    injection q with q1 q2
    subst q1;subst q2
    exact⟨ls',rfl,hp⟩
  · rw[if_neg e]
    exact⟨fun q=>q,fun ms u q=>⟨ms,q,List.Perm.refl _⟩⟩
structure Prog(v v':Sv):Prop where
  tr:∃T,v'.trail=v.trail++T
  lev:∀x,(x∈v.trail∨-x∈v.trail)→lv v' x=lv v x
  cl:ClSame v.cl v'.cl
  limits:v'.limits=v.limits
  learned:v'.learned=v.learned
  heat:v'.heat=v.heat
  phase:v'.phase=v.phase
  broken:v'.broken=v.broken
  model:v'.model=v.model
  trace:v'.trace=v.trace
  many:v'.many=v.many
  room:v'.room=v.room
theorem Prog.refl(v:Sv):Prog v v:=⟨⟨[],(List.append_nil _).symm⟩,fun _ _=>rfl,ClSame.refl _,rfl,rfl,rfl,rfl,rfl,rfl,rfl,rfl,rfl⟩
theorem Prog.mem{v v':Sv}(h:Prog v v'){x:Int}(hx:x∈v.trail):x∈v'.trail:=by
  obtain⟨T,e⟩:=h.tr
  rw[e];exact List.mem_append_left _ hx
theorem Prog.trans{v v1 v2:Sv}(h:Prog v v1)(k:Prog v1 v2):Prog v v2:=by
  obtain⟨T,e⟩:=h.tr
  obtain⟨U,f⟩:=k.tr
  exact⟨⟨T++U,by rw[f,e,List.append_assoc]⟩,fun x hx=>(k.lev x (hx.imp h.mem h.mem)).trans (h.lev x hx),h.cl.trans k.cl,k.limits.trans h.limits,k.learned.trans h.learned,k.heat.trans h.heat,k.phase.trans h.phase,k.broken.trans h.broken,k.model.trans h.model,k.trace.trans h.trace,k.many.trans h.many,k.room.trans h.room⟩
theorem Prog.of{v v' w w':Sv}(h:Prog v v')(a1:w.trail=v.trail)(a2:w.level=v.level)(a3:w.cl=v.cl)(a4:w.limits=v.limits)(a5:w.learned=v.learned)(a6:w.heat=v.heat)(a7:w.phase=v.phase)(a8:w.broken=v.broken)(a9:w.model=v.model)(a10:w.trace=v.trace)(a11:w.many=v.many)(a12:w.room=v.room)
    (b1:w'.trail=v'.trail) (b2:w'.level=v'.level) (b3:w'.cl=v'.cl) (b4:w'.limits=v'.limits) (b5:w'.learned=v'.learned) (b6:w'.heat=v'.heat) (b7:w'.phase=v'.phase) (b8:w'.broken=v'.broken) (b9:w'.model=v'.model) (b10:w'.trace=v'.trace) (b11:w'.many=v'.many) (b12:w'.room=v'.room):Prog w w':=
  ⟨by rw[a1,b1];exact h.tr,by unfold lv;rw[a1,a2,b2];exact h.lev,by rw[a3,b3];exact h.cl,by rw[a4,b4];exact h.limits,by rw[a5,b5];exact h.learned,by rw[a6,b6];exact h.heat,by rw[a7,b7];exact h.phase,by rw[a8,b8];exact h.broken,by rw[a9,b9];exact h.model,by rw[a10,b10];exact h.trace,by rw[a11,b11];exact h.many,by rw[a12,b12];exact h.room⟩
theorem swapL_perm{ls:List Int}{i j:Nat}(hi:i<ls.length)(hj:j<ls.length):(swapL ls i j).Perm ls:=by
  have:=List.set_set_perm hi hj
  unfold swapL
  rw[List.getD_eq_getElem?_getD,List.getD_eq_getElem?_getD,List.getElem?_eq_getElem hi,List.getElem?_eq_getElem hj]
  exact this
theorem swapL_j{ls:List Int}{i j:Nat}(hj:j<ls.length):(swapL ls i j).getD j 0=ls.getD i 0:=by
  unfold swapL
  rw[getD_set_eq (by rw[List.length_set];exact hj)]
theorem swapL_i{ls:List Int}{i j:Nat}(hi:i<ls.length)(hne:i≠j):(swapL ls i j).getD i 0=ls.getD j 0:=by
  unfold swapL
  rw[getD_set_ne hne,getD_set_eq hi]
theorem swapL_ne{ls:List Int}{i j k:Nat}(h1:k≠i)(h2:k≠j):(swapL ls i j).getD k 0=ls.getD k 0:=by
  unfold swapL
  rw[getD_set_ne h2,getD_set_ne h1]
theorem nodup_abs{ls:List Int}(h:(ls.map Int.natAbs).Nodup){i j:Nat}(hi:i<ls.length)(hj:j<ls.length)(e:(ls.getD i 0).natAbs=(ls.getD j 0).natAbs):i=j:=by
  refine(List.getElem?_inj (by rw[List.length_map];exact hi) h).1 ?_
  rw[List.getElem?_map,List.getElem?_map,getD_get (d:=(0:Int)) hi,getD_get (d:=(0:Int)) hj]
  show some _=some _
  rw[e]
theorem findM_none{val:List Int}:∀ {l:List Int}{k:Nat},findM val l k=none→∀y∈l,Go.Proofs.Ytilhhmkdcoajnaa.Am.isV val y<0
  | [],k,_,y,hy=>by cases hy
  | x::l,k,h,y,hy=>by
    unfold findM at h
    split at h
    · cases h
    · rename_i hx
      rcases List.mem_cons.1 hy with e | e
      · rw[e];omega
      · exact findM_none h y e
theorem mem_two{ls:List Int}(h2:2≤ls.length){y:Int}(hy:y∈ls):y=ls.getD 0 0∨y=ls.getD 1 0∨y∈ls.drop 2:=by
  obtain⟨i,hi,e⟩:=List.getElem_of_mem hy
  have hg:ls[i]? = some y:=by rw[List.getElem?_eq_getElem hi,e]
  match i,hg with
  | 0,hg=>exact .inl (getD_of hg).symm
  | 1,hg=>exact .inr (.inl (getD_of hg).symm)
  | i+2,hg=>exact .inr (.inr (List.mem_of_getElem? (i:=i) (by rw[List.getElem?_drop,show 2+i=i+2 by omega];exact hg)))
theorem getD_setW{W:List (List Nat)}{w k:Nat}{M:List Nat}(hw:w<W.length):(W.set w M).getD k []=if k=w then M else W.getD k []:=getD_set hw
theorem getD_put{W:List (List Nat)}{w k c:Nat}(hw:w<W.length):(wPut W w c).getD k []=if k=w then W.getD w []++[c]else W.getD k []:=getD_set hw
def withW(v:Sv)(w:Nat)(M:List Nat):Sv:=setW v (v.watches.set w M)
def Fails(v:Sv)(c:Nat)(l:Int):Prop:=∃ls b,v.cl c=some (ls,b)∧2≤ls.length∧(∀y∈ls,-y∈v.trail)∧l∈ls
theorem withW_list{v:Sv}{w k:Nat}{M:List Nat}(hw:w<v.watches.length):(withW v w M).watches.getD k []=if k=w then M else v.watches.getD k []:=getD_setW hw
theorem turned{ls:List Int}(h2:2≤ls.length)(hnd:(ls.map Int.natAbs).Nodup){l:Int}(hl:l=ls.getD 0 0∨l=ls.getD 1 0):
    (if ls.getD 0 0=l then swapL ls 0 1 else ls).Perm ls∧(if ls.getD 0 0=l then swapL ls 0 1 else ls).getD 1 0=l∧((if ls.getD 0 0=l then swapL ls 0 1 else ls).getD 0 0=ls.getD 1 0∧l=ls.getD 0 0∨(if ls.getD 0 0=l then swapL ls 0 1 else ls)=ls∧l=ls.getD 1 0):=by
  by_cases h:ls.getD 0 0=l
  · rw[if_pos h]
    exact⟨swapL_perm (by omega) (by omega),by rw[swapL_j (by omega)];exact h,.inl ⟨swapL_i (by omega) (by omega),h.symm⟩⟩
  · rw [if_neg h]
    rcases hl with e | e
    · exact absurd e.symm h
    · exact⟨List.Perm.refl _,e.symm,.inr ⟨rfl,e⟩⟩
theorem CW.clause{v v':Sv}{h:Nat}{X X':List Nat}{c:Nat}{ls ls':List Int}{b:Bool×Bool}(hW:CW v h X)(hX:∀d,d≠c→(d∈X→d∈X'))(hc:v.cl c=some (ls,b))(hcl:v'.cl=clPut v.cl c (ls',b))(hw:v'.watches=v.watches)(hlen:ls'.length=ls.length)
    (hp:(place (ls'.getD 0 0)=place (ls.getD 0 0)∧place (ls'.getD 1 0)=place (ls.getD 1 0))∨(place (ls'.getD 0 0)=place (ls.getD 1 0)∧place (ls'.getD 1 0)=place (ls.getD 0 0)))
    (hother:∀d ms t,d≠c→v.cl d=some (ms,t)→2≤ms.length→∀hh,hh≤h→Wok v hh ms→Wok v' hh ms) (hself:2≤ls.length→Wok v' (h - 1) ls'∧(c ∉ X'→Wok v' h ls')):CW v' h X':=by
  have get:∀ {d:Nat} {ms:List Int} {t:Bool×Bool},v'.cl d=some (ms,t)→(d=c∧ms=ls'∧t=b)∨(d≠c∧v.cl d=some (ms,t)):=by
    intro d ms t hd
    rw[hcl]at hd
    unfold clPut at hd
    by_cases e:d=c
    · rw[if_pos e]at hd
      injection hd with hd
      injection hd with q1 q2
      exact .inl ⟨e,q1.symm,q2.symm⟩
    · rw[if_neg e]at hd
      exact .inr ⟨e,hd⟩
  refine⟨fun d ms t hd h2=>?_,fun k d ms t hk hd=>?_,fun k=>by rw[hw];exact hW.wnd k,fun d ms t hd h2=>?_⟩
  · rw [hw]
    rcases get hd with⟨rfl,rfl,rfl⟩ | ⟨e,q⟩
    · have:=hW.wat d ls t hc (by omega)
      rcases hp with⟨p1,p2⟩ | ⟨p1,p2⟩
      · rw[p1,p2];exact this
      · rw[p1,p2];exact⟨this.2,this.1⟩
    · exact hW.wat d ms t q h2
  · rw [hw] at hk
    rcases get hd with⟨rfl,rfl,rfl⟩ | ⟨e,q⟩
    · have:=hW.wcl k d ls t hk hc
      rcases hp with⟨p1,p2⟩ | ⟨p1,p2⟩
      · rw[p1,p2];exact this
      · rw[p1,p2];exact this.symm
    · exact hW.wcl k d ms t hk q
  · rcases get hd with ⟨rfl, rfl, rfl⟩ | ⟨e, q⟩
    · exact hself (by omega)
    · obtain⟨r1,r2⟩:=hW.wok d ms t q h2
      exact⟨hother d ms t e q h2 _ (by omega) r1,fun hx=>hother d ms t e q h2 _ (Nat.le_refl _) (r2 fun hd'=>hx (hX d e hd'))⟩
theorem touch_cw {n h : Nat} {v : Sv} {c : Nat} {l : Int} {ls : List Int} {b : Bool × Bool} {K rest : List Nat} (hC : CT n v) (hW : CW (withW v (place l) (K ++ c :: rest)) h (c :: rest)) (h1 : 1 ≤ h) (hh : h ≤ v.trail.length) (hl : v.trail[h - 1]? = some (-l)) (hll : lv v l = (v.limits.length : Int)) (hc : v.cl c = some (ls, b)) (h2 : 2 ≤ ls.length) (hwl : place l < v.watches.length) :
    Prog v (touchR v c l ls b).2.2∧CT n (touchR v c l ls b).2.2 ∧
    ((touchR v c l ls b).2.1=false→CW (withW (touchR v c l ls b).2.2 (place l) ((if (touchR v c l ls b).1=true then K++[c]else K)++rest)) h rest) ∧
    ((touchR v c l ls b).2.1=true→(touchR v c l ls b).1=true∧CW (withW (touchR v c l ls b).2.2 (place l) (K++c::rest)) h (c::rest)∧Fails (touchR v c l ls b).2.2 c l):=by
  obtain⟨hcl,hne,hnd,hgone⟩:=hC.cls c ls b hc
  have hi:=hC.inv
  have hlt:-l∈v.trail:=List.mem_of_getElem? hl
  have hl0:l≠0:=by have:=(hi.fit.lits _ hlt).1;omega
  have hlf:l ∉ v.trail:=fun q=>hi.two q hlt
  have hlh:-l∈v.trail.take h:=mem_tk.2 ⟨h - 1,by omega,hl⟩
  have hn0:∀k,k<ls.length→ls.getD k 0≠0:=fun k hk=>(hcl.get hk).1
  have hcv:(withW v (place l) (K++c::rest)).cl c=some (ls,b):=hc
  have hlw:l=ls.getD 0 0∨l=ls.getD 1 0:=by
    rcases hW.wcl (place l) c ls b (by rw[withW_list hwl,if_pos rfl];simp) hcv with q | q
    · exact .inl (place_inj hl0 (hn0 0 (by omega)) q)
    · exact .inr (place_inj hl0 (hn0 1 (by omega)) q)
  have hKnd:(K++c::rest).Nodup:=by
    have:=hW.wnd (place l)
    rw[withW_list hwl,if_pos rfl]at this
    exact this
  have hcK:c ∉ K∧c ∉ rest:=by
    rw[List.nodup_append]at hKnd
    exact⟨fun q=>hKnd.2.2 c q c (List.mem_cons_self ..) rfl,(List.nodup_cons.1 hKnd.2.1).1⟩
  unfold touchR
  rw[if_neg (by rw[hgone];decide)]
  dsimp only
  obtain⟨hp,hg1,hturn⟩:=turned h2 hnd hlw
  generalize (if ls.getD 0 0=l then swapL ls 0 1 else ls)=ls1 at hp hg1 hturn ⊢
  have hl1:ls1.length=ls.length:=hp.length_eq
  have hcl1:ClsOk n ls1:=⟨fun y hy=>hcl.1 y (hp.mem_iff.1 hy),by rw[hl1];exact hcl.2⟩
  have hnd1:(ls1.map Int.natAbs).Nodup:=((hp.map _).nodup_iff).2 hnd
  have hw0:ls1.getD 0 0≠0:=(hcl1.get (k:=0) (by omega)).1
  have hwl':ls1.getD 0 0≠l:=fun e=>by
    have:=nodup_abs hnd1 (i:=0) (j:=1) (by omega) (by omega) (by rw[e,hg1])
    cases this
  have hpp:(place (ls1.getD 0 0)=place (ls.getD 0 0)∧place (ls1.getD 1 0)=place (ls.getD 1 0))∨(place (ls1.getD 0 0)=place (ls.getD 1 0)∧place (ls1.getD 1 0)=place (ls.getD 0 0)):=by
    rcases hturn with⟨q1,q2⟩ | ⟨q1,q2⟩
    · exact .inr ⟨by rw[q1],by rw[hg1,← q2]⟩
    · rw[q1];exact .inl ⟨rfl,rfl⟩
  have hwokm:Wok v (h - 1) ls1:=by
    have:=(hW.wok c ls b hcv h2).1
    have this:Wok v (h - 1) ls:=this
    rcases hturn with⟨q1,q2⟩ | ⟨q1,q2⟩
    · unfold Wok
      rw[q1,hg1,q2]
      exact⟨this.2,this.1⟩
    · rw[q1];exact this
  have hCT1:CT n { v with cl:=clPut v.cl c (ls1,b) }:=hC.perm hc hp (fun q=>by
    rcases hturn with⟨q1,q2⟩ | ⟨q1,q2⟩
    · rw[← q2]at q;exact absurd q hlf
    · rw[q1]) (hi.swap hc hcl1 (by omega))
  have hP1:Prog v { v with cl:=clPut v.cl c (ls1,b) }:=⟨⟨[],(List.append_nil _).symm⟩,fun _ _=>rfl,ClSame.put hc hp,rfl,rfl,rfl,rfl,rfl,rfl,rfl,rfl,rfl⟩
  have hcl1':({ v with cl:=clPut v.cl c (ls1,b) }:Sv).cl c=some (ls1,b):=clPut_same _ _ _
  have stayW:∀ (v':Sv) (X':List Nat),v'.cl=clPut v.cl c (ls1,b)→v'.watches=v.watches→(∀d,d≠c→(d∈c::rest→d∈X'))→(∀ (ms:List Int) hh,hh≤h→Wok v hh ms→Wok v' hh ms)→(Wok v' (h - 1) ls1∧(c ∉ X'→Wok v' h ls1))→CW (withW v' (place l) (K++c::rest)) h X':=by
    intro v' X' e1 e2 hX ho hs
    refine CW.clause hW hX hcv e1 (by show v'.watches.set _ _=v.watches.set _ _;rw[e2]) hl1 hpp (fun d ms t hd q q2 hh hh' hok=>ho ms hh hh' hok) (fun _=>hs)
  have e4:∀ (v':Sv),K++[c]++rest=K++c::rest:=fun _=>by simp
  by_cases hpos:0<Go.Proofs.Ytilhhmkdcoajnaa.Am.isV v.value (ls1.getD 0 0)
  ·
    rw[if_pos hpos]
    refine⟨hP1,hCT1,fun _=>?_,fun q=>by cases q⟩
    have hin:=(hi.pos hw0).1 hpos
    show CW (withW _ (place l) ((if true=true then K++[c]else K)++rest)) h rest
    rw[if_pos rfl,e4 v]
    refine stayW _ rest rfl rfl (fun d hd q=>(List.mem_cons.1 q).resolve_left hd) (fun ms hh hh' hok=>hok) ⟨hwokm,fun _=>⟨fun q=>?_,fun _=>⟨hin,?_⟩⟩⟩
    · exact(hi.two hin (List.mem_of_mem_take q)).elim
    · rw[hg1]
      obtain⟨i,e⟩:=mem_at.1 hin
      have:=hC.lev i _ e
      show lv v (ls1.getD 0 0)≤lv v l
      rw[hll]
      unfold lv
      rw[this]
      have:=lvl_le v.limits i
      omega
  · rw[if_neg hpos]
    have hwnt:ls1.getD 0 0 ∉ v.trail:=fun q=>hpos ((hi.pos hw0).2 q)
    cases hfm:findM v.value (ls1.drop 2) 2 with
    | some i =>
      dsimp only
      have hil:=findM_lt hfm
      rw[List.length_drop]at hil
      obtain⟨y,hy1,hy2,hy3⟩:=findM_val hfm
      rw[List.getElem?_drop,show 2+(i - 2)=i by omega]at hy1
      have hgy:ls1.getD i 0=y:=getD_of hy1
      have hVy:=hcl1.get (k:=i) (by omega)
      rw[hgy]at hVy
      have hyn:-y ∉ v.trail:=fun q=>by
        have:=(hi.neg hVy.1).2 q
        omega
      have hyw:place y≠place (ls1.getD 0 0):=fun e=>by
        have:=place_inj hVy.1 hw0 e
        have:=nodup_abs hnd1 (i:=i) (j:=0) (by omega) (by omega) (by rw[hgy,this])
        omega
      have hyl:place y≠place l:=fun e=>by
        have:=place_inj hVy.1 hl0 e
        have:=nodup_abs hnd1 (i:=i) (j:=1) (by omega) (by omega) (by rw[hgy,this,hg1])
        omega
      have hwpl:place (ls1.getD 0 0)≠place l:=fun e=>hwl' (place_inj hw0 hl0 e)
      have hyb:place y<v.watches.length:=by
        rw[hi.fit.siz.w]
        exact VL.place hVy
      have hsp:(swapL ls1 1 i).Perm ls1:=swapL_perm (by omega) (by omega)
      have hs0:(swapL ls1 1 i).getD 0 0=ls1.getD 0 0:=swapL_ne (by omega) (by omega)
      have hs1:(swapL ls1 1 i).getD 1 0=y:=by rw[swapL_i (by omega) (by omega)];exact hgy
      have hmi:=hCT1.inv.move hcl1' hcl1 (by omega) (i:=i) (by omega)
      have hcM:({ v with cl:=clPut v.cl c (ls1,b) }:Sv).cl c=some (ls1,b):=hcl1'
      have hclM:(moveTo { v with cl:=clPut v.cl c (ls1,b) } c ls1 b i).cl=clPut v.cl c (swapL ls1 1 i,b):=by
        show clPut (clPut v.cl c (ls1,b)) c _=_
        rw[clPut_put]
      have hwM:(moveTo { v with cl:=clPut v.cl c (ls1,b) } c ls1 b i).watches=wPut v.watches (place y) c:=by
        show wPut v.watches (place (ls1.getD i 0)) c=_
        rw[hgy]
      have hCTM:CT n (moveTo { v with cl:=clPut v.cl c (ls1,b) } c ls1 b i):=by
        have hiM:Inv1 n { v with cl:=clPut v.cl c (swapL ls1 1 i,b) }:=hi.swap hc (hcl1.swap (by omega) (by omega)) (by rw[swapL_len,hl1];exact h2)
        have:=hC.perm (ls':=swapL ls1 1 i) hc (hsp.trans hp) (fun q=>by
          rw[hs0]
          rcases hturn with⟨q1,q2⟩ | ⟨q1,q2⟩
          · rw[← q2]at q;exact absurd q hlf
          · rw[q1]) hiM
        exact this.of hmi rfl rfl rfl rfl hclM
      refine⟨⟨⟨[],(List.append_nil _).symm⟩,fun _ _=>rfl,by rw[hclM];exact ClSame.put hc (hsp.trans hp),rfl,rfl,rfl,rfl,rfl,rfl,rfl,rfl,rfl⟩,hCTM,fun _=>?_,fun q=>by cases q⟩
      show CW (withW (moveTo { v with cl:=clPut v.cl c (ls1,b) } c ls1 b i) (place l) ((if false=true then K++[c]else K)++rest)) h rest
      rw[if_neg (by decide)]
      have hlist:∀k,(withW (moveTo { v with cl:=clPut v.cl c (ls1,b) } c ls1 b i) (place l) (K++rest)).watches.getD k []=if k=place l then K++rest else if k=place y then v.watches.getD (place y) []++[c]else v.watches.getD k []:=by
        intro k
        rw[withW_list (by rw[hwM,wPut_len];exact hwl),hwM,getD_put hyb]
      have hold:∀k,(withW v (place l) (K++c::rest)).watches.getD k []=if k=place l then K++c::rest else v.watches.getD k []:=fun k=>withW_list hwl
      have hold':∀k,k≠place l→(withW v (place l) (K++c::rest)).watches.getD k []=v.watches.getD k []:=fun k hk=>by rw[hold,if_neg hk]
      have hcy:c ∉ v.watches.getD (place y) []:=fun q=>by
        rcases hW.wcl (place y) c ls b (by rw[hold' _ hyl];exact q) hcv with e | e
        · rcases hpp with ⟨p1, p2⟩ | ⟨p1, p2⟩
          · rw[← p1]at e;exact hyw e
          · rw[← p2,hg1]at e;exact hyl e
        · rcases hpp with ⟨p1, p2⟩ | ⟨p1, p2⟩
          · rw[← p2,hg1]at e;exact hyl e
          · rw[← p1]at e;exact hyw e
      have hcw:c∈v.watches.getD (place (ls1.getD 0 0)) []:=by
        have:=hW.wat c ls b hcv h2
        rw[← hold' _ hwpl]
        rcases hpp with⟨p1,p2⟩ | ⟨p1,p2⟩
        · rw[p1];exact this.1
        · rw[p1];exact this.2
      have get:∀ {d:Nat} {ms:List Int} {t:Bool×Bool},clPut v.cl c (swapL ls1 1 i,b) d=some (ms,t)→(d=c∧ms=swapL ls1 1 i∧t=b)∨(d≠c∧v.cl d=some (ms,t)):=by
        intro d ms t hd
        unfold clPut at hd
        by_cases e:d=c
        · rw[if_pos e]at hd
          injection hd with hd
          injection hd with q1 q2
          exact .inl ⟨e,q1.symm,q2.symm⟩
        · rw[if_neg e]at hd
          exact .inr ⟨e,hd⟩
      refine⟨fun d ms t hd hd2=>?_,fun k d ms t hk hd=>?_,fun k=>?_,fun d ms t hd hd2=>?_⟩
      · have hd : clPut v.cl c (swapL ls1 1 i, b) d = some (ms, t) := by rw [← hclM]; exact hd
        rcases get hd with⟨rfl,rfl,rfl⟩ | ⟨e,q⟩
        · rw[hs0,hs1,hlist,hlist,if_neg hwpl,if_neg (fun e=>hyw e.symm),if_neg hyl,if_pos rfl]
          exact⟨hcw,by simp⟩
        · have hw := hW.wat d ms t q hd2
          have step:∀k,d∈(withW v (place l) (K++c::rest)).watches.getD k []→d∈(withW (moveTo { v with cl:=clPut v.cl c (ls1,b) } c ls1 b i) (place l) (K++rest)).watches.getD k []:=by
            intro k hk
            rw[hlist]
            rw[hold]at hk
            split
            · rename_i hkl
              rw[if_pos hkl]at hk
              simp only[List.mem_append,List.mem_cons]at hk ⊢
              rcases hk with q | q | q
              · exact .inl q
              · exact absurd q e
              · exact .inr q
            · rename_i hkl
              rw[if_neg hkl]at hk
              split
              · rename_i hky
                rw[hky]at hk
                exact List.mem_append_left _ hk
              · exact hk
          exact⟨step _ hw.1,step _ hw.2⟩
      · have hd : clPut v.cl c (swapL ls1 1 i, b) d = some (ms, t) := by rw [← hclM]; exact hd
        rw[hlist]at hk
        rcases get hd with⟨rfl,rfl,rfl⟩ | ⟨e,q⟩
        · rw[hs0,hs1]
          by_cases k1:k=place l
          · rw [if_pos k1] at hk
            rcases List.mem_append.1 hk with q | q
            · exact absurd q hcK.1
            · exact absurd q hcK.2
          · rw[if_neg k1]at hk
            by_cases k2:k=place y
            · exact .inr k2
            · rw[if_neg k2]at hk
              have:=hW.wcl k d ls t (by rw[hold' _ k1];exact hk) hcv
              rcases hpp with⟨p1,p2⟩ | ⟨p1,p2⟩
              · rcases this with q | q
                · exact .inl (q.trans p1.symm)
                · exact absurd (q.trans (p2.symm.trans (by rw[hg1]))) k1
              · rcases this with q | q
                · exact absurd (q.trans (p2.symm.trans (by rw[hg1]))) k1
                · exact .inl (q.trans p1.symm)
        · refine hW.wcl k d ms t ?_ q
          rw[hold]
          split
          · rename_i k1
            rw[if_pos k1]at hk
            simp only[List.mem_append,List.mem_cons]at hk ⊢
            rcases hk with q | q
            · exact .inl q
            · exact .inr (.inr q)
          · rename_i k1
            rw[if_neg k1]at hk
            split at hk
            · rename_i k2
              rcases List.mem_append.1 hk with q | q
              · rw[k2];exact q
              · exact absurd (List.mem_singleton.1 q) e
            · exact hk
      · rw[hlist]
        split
        · rw [List.nodup_append] at hKnd ⊢
          refine⟨hKnd.1,(List.nodup_cons.1 hKnd.2.1).2,fun a ha d hd=>hKnd.2.2 a ha d (List.mem_cons_of_mem _ hd)⟩
        · rename_i k1
          have hkn:=hW.wnd k
          rw[hold' _ k1]at hkn
          split
          · rename_i k2
            rw[k2]at hkn
            rw[List.nodup_append]
            refine⟨hkn,by simp,fun a ha d hd e=>?_⟩
            rw[List.mem_singleton.1 hd]at e
            exact hcy (by rw[← e];exact ha)
          · exact hkn
      · have hd : clPut v.cl c (swapL ls1 1 i, b) d = some (ms, t) := by rw [← hclM]; exact hd
        rcases get hd with⟨rfl,rfl,rfl⟩ | ⟨e,q⟩
        · have:Wok v h (swapL ls1 1 i):=by
            refine⟨fun q=>?_,fun q=>?_⟩
            · rw[hs0]at q
              exfalso
              obtain⟨j,hj,ej⟩:=mem_tk.1 q
              by_cases hjh:j=h - 1
              · rw[hjh,hl]at ej
                injection ej with ej
                exact hwl' (by omega)
              · have:=(hwokm.1 (mem_tk.2 ⟨j,by omega,ej⟩)).1
                rw[hg1]at this
                exact hlf this
            · rw[hs1]at q
              exact absurd (List.mem_of_mem_take q) hyn
          exact⟨this.mono (by omega),fun _=>this⟩
        · obtain⟨r1,r2⟩:=hW.wok d ms t q hd2
          exact⟨r1,fun hx=>r2 fun hd'=>hx ((List.mem_cons.1 hd').resolve_left e)⟩
    | none =>
      dsimp only
      have hfalse:∀y∈ls1.drop 2,-y∈v.trail:=fun y hy=>(hi.neg (hcl1.1 y (List.mem_of_mem_drop hy)).1).1 (findM_none hfm y hy)
      by_cases hneg:Go.Proofs.Ytilhhmkdcoajnaa.Am.isV v.value (ls1.getD 0 0)<0
      ·
        rw[if_pos hneg]
        refine⟨hP1,hCT1,fun q=>(by cases q),fun _=>⟨rfl,?_,ls1,b,hcl1',by omega,fun y hy=>?_,by rw[← hg1];exact List.mem_of_getElem? (getD_get (by omega))⟩⟩
        · exact stayW _ (c::rest) rfl rfl (fun d hd q=>q) (fun ms hh hh' hok=>hok) ⟨hwokm,fun q=>absurd (List.mem_cons_self ..) q⟩
        · rcases mem_two (by omega) hy with e | e | e
          · rw[e];exact(hi.neg hw0).1 hneg
          · rw[e,hg1];exact hlt
          · exact hfalse y e
      ·
        rw[if_neg hneg]
        have hwn:-(ls1.getD 0 0) ∉ v.trail:=fun q=>hneg ((hi.neg hw0).2 q)
        have hz0:=hi.zero hw0 hwnt hwn
        have hVw:=hcl1.get (k:=0) (by omega)
        have hCTa:CT n (assignV { v with cl:=clPut v.cl c (ls1,b) } (ls1.getD 0 0) (some c)):=hCT1.assign hVw hz0 hcl1' rfl (fun y hy hyw=>by
          rcases mem_two (by omega) hy with e | e | e
          · exact absurd e hyw
          · rw[e,hg1];exact hlt
          · exact hfalse y e)
        have habs:∀ {y:Int},(y∈v.trail∨-y∈v.trail)→y.natAbs≠(ls1.getD 0 0).natAbs:=by
          rintro y (hy | hy)
          · exact hi.abs_ne hz0 hy
          · have:=hi.abs_ne hz0 hy
            rw[Int.natAbs_neg]at this
            exact this
        have hlev:∀ {y:Int},(y∈v.trail∨-y∈v.trail)→lv (assignV { v with cl:=clPut v.cl c (ls1,b) } (ls1.getD 0 0) (some c)) y=lv v y:=fun hy=>by
          show(v.level.set _ _).getD _ 0=_
          rw[getD_set_ne (habs hy)]
        refine⟨⟨⟨[ls1.getD 0 0],rfl⟩,fun y hy=>hlev hy,ClSame.put hc hp,rfl,rfl,rfl,rfl,rfl,rfl,rfl,rfl,rfl⟩,hCTa,fun _=>?_,fun q=>by cases q⟩
        show CW (withW _ (place l) ((if true=true then K++[c]else K)++rest)) h rest
        rw[if_pos rfl,e4 v]
        have htk:∀hh,hh≤h→(v.trail++[ls1.getD 0 0]).take hh=v.trail.take hh:=fun hh hhh=>List.take_append_of_le_length (by omega)
        have hoth:∀ (ms:List Int) hh,hh≤h→Wok v hh ms→Wok (assignV { v with cl:=clPut v.cl c (ls1,b) } (ls1.getD 0 0) (some c)) hh ms:=by
          intro ms hh hhh hok
          refine⟨fun q=>?_,fun q=>?_⟩
          · have q:-(ms.getD 0 0)∈(v.trail++[ls1.getD 0 0]).take hh:=q
            rw[htk hh hhh]at q
            obtain⟨k1,k2⟩:=hok.1 q
            refine⟨List.mem_append_left _ k1,?_⟩
            rw[hlev (.inl k1),hlev (.inr (List.mem_of_mem_take q))]
            exact k2
          · have q:-(ms.getD 1 0)∈(v.trail++[ls1.getD 0 0]).take hh:=q
            rw[htk hh hhh]at q
            obtain⟨k1,k2⟩:=hok.2 q
            refine⟨List.mem_append_left _ k1,?_⟩
            rw[hlev (.inl k1),hlev (.inr (List.mem_of_mem_take q))]
            exact k2
        refine stayW _ rest rfl rfl (fun d hd q=>(List.mem_cons.1 q).resolve_left hd) hoth ⟨hoth ls1 _ (by omega) hwokm,fun _=>⟨fun q=>?_,fun _=>⟨List.mem_append_right _ (List.mem_singleton.2 rfl),?_⟩⟩⟩
        · have q:-(ls1.getD 0 0)∈(v.trail++[ls1.getD 0 0]).take h:=q
          rw[htk h (Nat.le_refl _)]at q
          exact absurd (List.mem_of_mem_take q) hwn
        · rw[hg1,hlev (.inr hlt),hll]
          show(v.level.set _ _).getD _ 0≤_
          rw[getD_set_eq (by rw[hi.fit.siz.level];have:=hVw.2;omega)]
          exact Int.le_refl _
theorem Fails.more{v v':Sv}{c:Nat}{l:Int}(h:Fails v c l)(h1:v'.cl=v.cl)(h2:v'.trail=v.trail):Fails v' c l:=by
  obtain⟨ls,b,q1,q2,q3,q4⟩:=h
  exact⟨ls,b,by rw[h1];exact q1,q2,fun y hy=>by rw[h2];exact q3 y hy,q4⟩
theorem propIn_cw {n h : Nat} {l : Int} : ∀ (rest K : List Nat) (v : Sv), CT n v → CW (withW v (place l) (K ++ rest)) h rest → 1 ≤ h → h ≤ v.trail.length → v.trail[h - 1]? = some (-l) → lv v l = (v.limits.length : Int) → WL n v rest → place l < v.watches.length → isV v.value l < 0 →
    Prog v (propIn l rest K v).2.2∧CT n (propIn l rest K v).2.2∧((propIn l rest K v).2.1=none→CW (withW (propIn l rest K v).2.2 (place l) (propIn l rest K v).1) h []) ∧
    (∀c,(propIn l rest K v).2.1=some c→CW (withW (propIn l rest K v).2.2 (place l) (propIn l rest K v).1) (h - 1) []∧Fails (propIn l rest K v).2.2 c l)
  | [],K,v,hC,hW,h1,hh,hl,hll,hr,hwl,hf=>⟨Prog.refl v,hC,fun _=>by rw[List.append_nil]at hW;exact hW,fun c q=>by cases q⟩
  | c::rest,K,v,hC,hW,h1,hh,hl,hll,hr,hwl,hf=>by
    obtain⟨ls,b,hc,hcl,h2⟩:=hr c List.mem_cons_self
    obtain⟨p1,p2,p3,p4⟩:=touch_cw hC hW h1 hh hl hll hc h2 hwl
    obtain⟨t1,t2,t3,ls',t4,t5,t6⟩:=touch_inv hC.inv (Tot.shortN _) hc hcl h2 (l:=l) (a:=(touchR v c l ls b).1) (f:=(touchR v c l ls b).2.1) (v':=(touchR v c l ls b).2.2) rfl
    have hl0:l≠0:=by
      have:=(hC.inv.fit.lits _ (List.mem_of_getElem? hl)).1
      omega
    unfold propIn
    rw[hc]
    dsimp only
    generalize hr1:touchR v c l ls b=r at p1 p2 p3 p4 t1 t2 t3 t4
    cases hfail:r.2.1 with
    | true =>
      obtain⟨k1,k2,k3⟩:=p4 hfail
      rw[if_pos rfl]
      have e:K++[c]++rest=K++c::rest:=by simp
      rw[k1,if_pos rfl,e]
      exact⟨p1,p2,fun q=>(by cases q),fun d q=>by
        injection q with q
        subst q
        exact⟨k2.weak (Nat.le_refl _),k3⟩⟩
    | false =>
      rw[if_neg (by decide)]
      have k3:=p3 hfail
      obtain⟨T,eT⟩:=p1.tr
      have hlr:r.2.2.trail[h - 1]? = some (-l):=by
        rw[eT,List.getElem?_append_left (by omega)];exact hl
      have hmem:-l∈v.trail:=List.mem_of_getElem? hl
      have hfr:isV r.2.2.value l<0:=(p2.inv.neg hl0).2 (p1.mem hmem)
      have hwlr:WL n r.2.2 rest:=touch_wl t3 ⟨ls',b,t4,t5,by omega⟩ fun d hd=>hr d (List.mem_cons_of_mem _ hd)
      obtain⟨q1,q2,q3,q4⟩:=propIn_cw rest (if r.1=true then K++[c]else K) r.2.2 p2 k3 h1 (by rw[eT,List.length_append];omega) hlr (by rw[p1.lev l (.inr hmem),p1.limits];exact hll) hwlr (by rw[t3.wlen];exact hwl) hfr
      exact⟨p1.trans q1,q2,q3,q4⟩
theorem set_getD{W:List (List Nat)}{w:Nat}(hw:w<W.length):W.set w (W.getD w [])=W:=by
  apply List.ext_getElem?
  intro i
  rw[List.getElem?_set]
  split
  · rename_i e
    subst e
    first | rw[if_pos hw,getD_get (d:=[]) hw] | rw[getD_get (d:=[]) hw]
  · rfl
theorem propStep_cw {n B : Nat} {v : Sv} (hC : CT n v) (hW : CW v v.head.toNat []) (hB : Inv2 n B v) (hlh : ∀ x ∈ v.limits, x ≤ v.head) (hh : v.head < (v.trail.length : Int)) :
    Prog v (propStep v).2∧CT n (propStep v).2∧((propStep v).1=none→CW (propStep v).2 (propStep v).2.head.toNat []∧(propStep v).2.head=v.head+1) ∧
    ∀c,(propStep v).1=some c→CW (propStep v).2 v.head.toNat []∧∃l,Fails (propStep v).2 c l∧lv (propStep v).2 l=(v.limits.length:Int):=by
  obtain⟨hk1,hk2,hk3⟩:=propStep_keep hB hh
  have h0:=hB.h0
  have hi:=hC.inv
  have hlt:v.head.toNat<v.trail.length:=by omega
  have hg:=getD_get (d:=(0:Int)) hlt
  have hy:v.trail.getD v.head.toNat 0∈v.trail:=List.mem_of_getElem? hg
  have hVL:=hi.fit.lits _ hy
  have hwl:place (-(v.trail.getD v.head.toNat 0))<v.watches.length:=by
    rw[hi.fit.siz.w]
    exact VL.place ⟨by have:=hVL.1;omega,by have:=hVL.2;omega⟩
  generalize hyy:v.trail.getD v.head.toNat 0=y at *
  have hl0:-y≠0:=by have:=hVL.1;omega
  have hgl:=getD_get (d:=([]:List Nat)) hwl
  have hLw:WL n v (v.watches.getD (place (-y)) []):=hi.wc _ (List.mem_of_getElem? hgl)
  have hiA:Inv1 n (propA v (place (-y))):=by
    obtain⟨⟨hz,hv,hli,hlm⟩,g2,g3,g4,g5⟩:=hi.setW (k:=place (-y)) (M:=[]) (fun d hd=>by cases hd)
    exact⟨⟨⟨hz.small,hz.w,hz.value,hz.level,hz.why,hz.heat,hz.phase,hz.trail,hz.limits⟩,hv,hli,hlm⟩,g2,g3,g4,g5⟩
  have hCA:CT n (propA v (place (-y))):=hC.of hiA rfl rfl rfl rfl rfl
  have hyn:-y ∉ v.trail:=fun q=>hi.two hy q
  have hset:(v.watches.set (place (-y)) []).set (place (-y)) (v.watches.getD (place (-y)) [])=v.watches:=by
    rw[List.set_set,set_getD hwl]
  have hWA:CW (withW (propA v (place (-y))) (place (-y)) ([]++v.watches.getD (place (-y)) [])) (v.head.toNat+1) (v.watches.getD (place (-y)) []):=by
    have ew:(withW (propA v (place (-y))) (place (-y)) ([]++v.watches.getD (place (-y)) [])).watches=v.watches:=by
      show(v.watches.set (place (-y)) []).set (place (-y)) ([]++_)=v.watches
      rw[List.nil_append]
      exact hset
    refine⟨fun d ms t hd h2=>by rw[ew];exact hW.wat d ms t hd h2,fun k d ms t hk hd=>by rw[ew]at hk;exact hW.wcl k d ms t hk hd,fun k=>by rw[ew];exact hW.wnd k,fun d ms t hd h2=>?_⟩
    have hok:Wok v v.head.toNat ms:=(hW.wok d ms t hd h2).2 (by simp)
    refine⟨by rw[Nat.add_sub_cancel];exact hok,fun hx=>?_⟩
    have hdn:=(hC.cls d ms t hd).1
    have hwat:=hW.wat d ms t hd h2
    refine⟨fun q=>?_,fun q=>?_⟩
    · obtain⟨j,hj,ej⟩:=mem_tk.1 q
      have ej:v.trail[j]? = some (-(ms.getD 0 0)):=ej
      by_cases e:j=v.head.toNat
      · exfalso
        rw[e,hg]at ej
        injection ej with ej
        have:ms.getD 0 0=-y:=by omega
        rw[this]at hwat
        exact hx hwat.1
      · exact hok.1 (mem_tk.2 ⟨j,by omega,ej⟩)
    · obtain⟨j,hj,ej⟩:=mem_tk.1 q
      have ej:v.trail[j]? = some (-(ms.getD 1 0)):=ej
      by_cases e:j=v.head.toNat
      · exfalso
        rw[e,hg]at ej
        injection ej with ej
        have:ms.getD 1 0=-y:=by omega
        rw[this]at hwat
        exact hx hwat.2
      · exact hok.2 (mem_tk.2 ⟨j,by omega,ej⟩)
  have hlvl:lv v (-y)=(v.limits.length:Int):=by
    unfold lv
    rw[Int.natAbs_neg,hC.lev _ _ hg,lvl_full fun x hx=>by have:=hlh x hx;omega]
  have hfv:isV v.value (-y)<0:=(hi.neg hl0).2 (by rw[Int.neg_neg];exact hy)
  obtain⟨q1,q2,q3,q4⟩:=propIn_cw (h:=v.head.toNat+1) (l:=-y) (v.watches.getD (place (-y)) []) [] (propA v (place (-y))) hCA hWA (by omega) (by show _≤v.trail.length;omega) (by show v.trail[v.head.toNat+1 - 1]? = _;rw[Nat.add_sub_cancel,Int.neg_neg];exact hg) hlvl hLw (by show place (-y)<(v.watches.set _ _).length;rw[List.length_set];exact hwl) hfv
  have hPA:Prog v (propIn (-y) (v.watches.getD (place (-y)) []) [] (propA v (place (-y)))).2.2:=q1.of rfl rfl rfl rfl rfl rfl rfl rfl rfl rfl rfl rfl rfl rfl rfl rfl rfl rfl rfl rfl rfl rfl rfl rfl
  obtain⟨k1,k2⟩:=propIn_keep hl0 (v.watches.getD (place (-y)) []) [] (propA v (place (-y))) hiA (fun d hd=>by cases hd) hLw hfv
  have hhd:(propIn (-y) (v.watches.getD (place (-y)) []) [] (propA v (place (-y)))).2.2.head=v.head+1:=k1.head
  have hmemn:-y∈v.trail∨-(-y)∈v.trail:=.inr (by rw[Int.neg_neg];exact hy)
  unfold propStep propB at hk1 ⊢
  rw[hyy]at hk1 ⊢
  generalize propIn (-y) (v.watches.getD (place (-y)) []) [] (propA v (place (-y)))=r at *
  obtain⟨K,bad,v1⟩:=r
  dsimp only at *
  cases bad with
  | none =>
    refine⟨hPA.of rfl rfl rfl rfl rfl rfl rfl rfl rfl rfl rfl rfl rfl rfl rfl rfl rfl rfl rfl rfl rfl rfl rfl rfl,q2.of hk1.inv rfl rfl rfl rfl rfl,fun _=>⟨?_,hhd⟩,fun c q=>by cases q⟩
    have:=q3 rfl
    have e:(setW v1 (v1.watches.set (place (-y)) K)).head.toNat=v.head.toNat+1:=by
      show v1.head.toNat=_
      rw[hhd];omega
    show CW (setW v1 (v1.watches.set (place (-y)) K)) _ []
    rw[e]
    exact this
  | some c =>
    refine⟨hPA.of rfl rfl rfl rfl rfl rfl rfl rfl rfl rfl rfl rfl rfl rfl rfl rfl rfl rfl rfl rfl rfl rfl rfl rfl,q2.of hk1.inv rfl rfl rfl rfl rfl,fun q=>(by cases q),fun d q=>?_⟩
    injection q with q
    subst q
    obtain⟨g1,g2⟩:=q4 c rfl
    rw[Nat.add_sub_cancel]at g1
    refine⟨⟨g1.wat,g1.wcl,g1.wnd,g1.wok⟩,-y,g2.more rfl rfl,?_⟩
    have:=hPA.lev (-y) hmemn
    rw[hlvl]at this
    exact this
theorem PropR.cw{n B:Nat}{v v':Sv}{r:Option Nat}(k:PropR v r v'):CT n v→CW v v.head.toNat []→Inv2 n B v→(∀x∈v.limits,x≤v.head) →
    Prog v v'∧CT n v'∧Inv2 n B v'∧(r=none→CW v' v'.head.toNat []∧v'.head=(v'.trail.length:Int)) ∧
    ∀c,r=some c→∃h,CW v' h []∧(∀x∈v.limits,x≤(h:Int))∧∃l,Fails v' c l∧lv v' l=(v.limits.length:Int):=by
  induction k with
  | @done v hd =>
    intro hC hW hB hlh
    refine⟨Prog.refl _,hC,hB,fun _=>⟨hW,?_⟩,fun c q=>by cases q⟩
    have:=hB.h1
    omega
  | @more v v1 v2 r h1 h2 _ ih =>
    intro hC hW hB hlh
    obtain⟨p1,p2,p3,p4⟩:=propStep_cw hC hW hB hlh h1
    obtain⟨k1,k2,k3⟩:=propStep_keep hB h1
    rw[h2]at p1 p2 p3 p4 k1 k2 k3
    obtain⟨g1,g2⟩:=p3 rfl
    have hlh1:∀x∈v1.limits,x≤v1.head:=fun x hx=>by
      rw[show v1.limits=v.limits from k2]at hx
      have:=hlh x hx
      have g2:v1.head=v.head+1:=g2
      omega
    obtain⟨q1,q2,q3,q4,q5⟩:=ih p2 g1 k1 hlh1
    refine⟨p1.trans q1,q2,q3,q4,fun c hc=>?_⟩
    obtain⟨h,r1,r2,r3⟩:=q5 c hc
    have e:v1.limits=v.limits:=k2
    rw[e]at r2 r3
    exact⟨h,r1,r2,r3⟩
  | @bad v v1 c h1 h2 =>
    intro hC hW hB hlh
    obtain⟨p1,p2,p3,p4⟩:=propStep_cw hC hW hB hlh h1
    obtain⟨k1,k2,k3⟩:=propStep_keep hB h1
    rw[h2]at p1 p2 p3 p4 k1 k2 k3
    obtain⟨g1,g2⟩:=p4 c rfl
    have h0:=hB.h0
    refine⟨p1,p2,k1,fun q=>(by cases q),fun d q=>?_⟩
    injection q with q
    subst q
    exact⟨v.head.toNat,g1,fun x hx=>by have:=hlh x hx;omega,g2⟩
def Sat(σ:Nat→Bool)(x:Int):Prop:=(0<x∧σ x.natAbs=true)∨(x<0∧σ x.natAbs=false)
theorem Sat.neg{σ:Nat→Bool}{x:Int}(h:Sat σ x)(k:Sat σ (-x)):False:=by
  unfold Sat at h k
  rw[Int.natAbs_neg]at k
  rcases h with⟨h1,h2⟩ | ⟨h1,h2⟩<;>rcases k with⟨k1,k2⟩ | ⟨k1,k2⟩<;>first | omega | (rw[h2]at k2;cases k2)
theorem Sat.or{σ:Nat→Bool}{x:Int}(hx:x≠0):Sat σ x∨Sat σ (-x):=by
  unfold Sat
  rw[Int.natAbs_neg]
  cases σ x.natAbs with
  | true => by_cases h : 0 < x
            · exact .inl (.inl ⟨h,rfl⟩)
            · exact .inr (.inl ⟨by omega,rfl⟩)
  | false => by_cases h : 0 < x
             · exact .inr (.inr ⟨by omega,rfl⟩)
             · exact .inl (.inr ⟨by omega,rfl⟩)
def Db(cl:Nat→Option Clause)(σ:Nat→Bool):Prop:=∀c ls b,cl c=some (ls,b)→∃y∈ls,Sat σ y
theorem CT.zero {n : Nat} {v : Sv} (h : CT n v) {σ : Nat → Bool} (hσ : Db v.cl σ) : ∀ (i : Nat) (x : Int), v.trail[i]? = some x → lv v x = 0 → Sat σ x := by
  intro i
  induction i using Nat.strongRecOn with
  | _ i ih =>
    intro x hx hl
    have hlev:=h.lev i x hx
    have hl0:lvl v.limits i=0:=by
      have:lv v x=(lvl v.limits i:Int):=hlev
      omega
    rcases h.why i x hx with⟨q1,q2⟩ | ⟨c,ls,b,q1,q2,q3,q4⟩
    · obtain⟨k,hk⟩:=mem_at.1 q2
      have:=lvl_ge h.sorted hk (Int.le_refl _)
      omega
    · obtain⟨y,hy,hs⟩:=hσ c ls b q2
      by_cases e:y=x
      · rw[← e];exact hs
      · obtain⟨j,hj,ej⟩:=mem_tk.1 (q4 y hy e)
        have hjl:lv v (-y)=0:=by
          have h1:lv v (-y)=(lvl v.limits j:Int):=h.lev j _ ej
          have h2:=lvl_mono (L:=v.limits) (Nat.le_of_lt hj)
          omega
        exact(hs.neg (ih j hj (-y) ej hjl)).elim
def cnt(tr:List Int)(seen:List Nat)(m k:Nat):Nat:=((tr.take k).drop m).countP fun x=>decide (x.natAbs∈seen)
theorem cnt_succ{tr:List Int}{seen:List Nat}{m k:Nat}(hk:k<tr.length):cnt tr seen m (k+1)=cnt tr seen m k+if m≤k∧(tr.getD k 0).natAbs∈seen then 1 else 0:=by
  unfold cnt
  have e:tr.take (k+1)=tr.take k++[tr.getD k 0]:=by
    rw[List.take_succ_eq_append_getElem hk]
    congr 2
    rw[List.getD_eq_getElem?_getD,List.getElem?_eq_getElem hk];rfl
  rw[e]
  have hl:(tr.take k).length=k:=by rw[List.length_take];omega
  by_cases hm:m≤k
  · rw[List.drop_append_of_le_length (by omega),List.countP_append]
    congr 1
    by_cases hs:(tr.getD k 0).natAbs∈seen
    · rw[if_pos ⟨hm,hs⟩,List.countP_singleton,if_pos (decide_eq_true hs)]
    · rw[if_neg (fun q=>hs q.2),List.countP_singleton,if_neg (by rw[decide_eq_false hs];decide)]
  · rw [if_neg (fun q => hm q.1), List.drop_of_length_le (by rw [List.length_append, hl]; simp; omega), List.drop_of_length_le (by omega)]
    rfl
theorem cnt_zero{tr:List Int}{seen:List Nat}{m k:Nat}(h:cnt tr seen m k=0){j:Nat}{x:Int}(hj:j<k)(hm:m≤j)(hx:tr[j]? = some x):x.natAbs ∉ seen:=by
  unfold cnt at h
  rw[List.countP_eq_zero]at h
  have:x∈(tr.take k).drop m:=by
    rw[mem_at]
    exact⟨j - m,by rw[List.getElem?_drop,show m+(j - m)=j by omega,List.getElem?_take_of_lt hj];exact hx⟩
  have:=h x this
  simpa using this
theorem cnt_pos{tr:List Int}{seen:List Nat}{m k j:Nat}{x:Int}(hj:j<k)(hm:m≤j)(hx:tr[j]? = some x)(hs:x.natAbs∈seen):1≤cnt tr seen m k:=by
  rcases Nat.eq_zero_or_pos (cnt tr seen m k)with h | h
  · exact absurd hs (cnt_zero h hj hm hx)
  · exact h
theorem cnt_mono{tr:List Int}{seen seen':List Nat}(h:∀x∈seen,x∈seen')(m k:Nat):cnt tr seen m k≤cnt tr seen' m k:=by
  unfold cnt
  refine List.countP_mono_left fun x _ hx=>?_
  exact decide_eq_true (h _ (of_decide_eq_true hx))
theorem seek_cnt {tr : List Int} {seen : List Nat} {m : Nat} : ∀ {k : Nat}, k ≤ tr.length → 1 ≤ cnt tr seen m k → ∃ i, seek tr seen k = some i ∧ m ≤ i ∧ i < k ∧ (tr.getD i 0).natAbs ∈ seen ∧ cnt tr seen m k = cnt tr seen m i + 1 ∧ ∀ j, i < j → j < k → (tr.getD j 0).natAbs ∉ seen
  | 0,_,h=>by simp[cnt]at h
  | k + 1, hk, h => by
    rw[cnt_succ hk]at h
    unfold seek
    by_cases hs:(tr.getD k 0).natAbs∈seen
    · rw[if_pos hs]
      by_cases hm:m≤k
      · exact⟨k,rfl,hm,Nat.lt_succ_self _,hs,by rw[cnt_succ hk,if_pos ⟨hm,hs⟩],fun j h1 h2=>by omega⟩
      · exfalso
        rw[if_neg (fun q=>hm q.1)]at h
        have:cnt tr seen m k=0:=by
          unfold cnt
          rw[List.drop_of_length_le (by rw[List.length_take];omega)]
          rfl
        omega
    · rw[if_neg (fun q=>hs q.2)]at h
      obtain⟨i,h1,h2,h3,h4,h5,h6⟩:=seek_cnt (by omega) h
      rw[if_neg hs]
      refine⟨i,h1,h2,by omega,h4,by rw[cnt_succ hk,if_neg (fun q=>hs q.2)];exact h5,fun j j1 j2=>?_⟩
      rcases Nat.lt_or_ge j k with q | q
      · exact h6 j j1 q
      · have:j=k:=by omega
        rw[this];exact hs
structure LI(v:Sv)(m:Nat)(a:Lst)(at_:Nat):Prop where
  seenA:∀k∈a.seen,∃ (i:Nat) (x:Int),v.trail[i]? = some x∧x.natAbs=k∧1≤lv v x
  nd:a.seen.Nodup
  lits:∀q∈a.lits,-q∈v.trail∧q.natAbs∈a.seen∧1≤lv v q∧lv v q<(v.limits.length:Int)
  litsC:∀x∈v.trail,x.natAbs∈a.seen→lv v x<(v.limits.length:Int)→-x∈a.lits
  litsnd:(a.lits.map Int.natAbs).Nodup
  opn:a.opn=(cnt v.trail a.seen m at_:Int)
  lev:(∀q∈a.lits,lv v q≤a.lev)∧(a.lits=[]∧a.lev=0∨∃q∈a.lits,lv v q=a.lev)
theorem lv_neg(v:Sv)(x:Int):lv v (-x)=lv v x:=by unfold lv;rw[Int.natAbs_neg]
theorem CT.last{n:Nat}{v:Sv}(h:CT n v){t:Int}(ht:v.limits[v.limits.length - 1]? = some t){i:Nat}{x:Int}(hx:v.trail[i]? = some x):(lv v x=(v.limits.length:Int)↔t.toNat≤i)∧lv v x≤(v.limits.length:Int)∧0≤lv v x:=by
  have hl:=lt_of_get ht
  have ht0:=h.lim t (List.mem_of_getElem? ht)
  have e:lv v x=(lvl v.limits i:Int):=h.lev i x hx
  have hle:=lvl_le v.limits i
  refine⟨⟨fun q=>?_,fun q=>?_⟩,by omega,by omega⟩
  · rcases Nat.lt_or_ge i t.toNat with h1 | h1
    · have:=(lvl_lt h.sorted ht (i:=i) (by omega)).2
      omega
    · exact h1
  · have:=lvl_ge h.sorted ht (i:=i) (by omega)
    omega
theorem LI.start{v:Sv}{m k:Nat}:LI v m lst0 k:=⟨by simp[lst0],by simp[lst0],by simp[lst0],by simp[lst0],by simp[lst0],by simp[lst0,cnt],by simp[lst0]⟩
theorem LI.step {n : Nat} {v : Sv} (h : CT n v) {t : Int} (ht : v.limits[v.limits.length - 1]? = some t) {a : Lst} {at_ : Nat} (hL : LI v t.toNat a at_) {q : Int} (hq : ∃ j, j < at_ ∧ v.trail[j]? = some (-q)) :
    LI v t.toNat (learnQ v a q) at_∧(∀k∈a.seen,k∈(learnQ v a q).seen)∧(lv v q=0∨q.natAbs∈(learnQ v a q).seen)∧(learnQ v a q).hd=a.hd:=by
  obtain⟨j,hj,hx⟩:=hq
  have hmem:-q∈v.trail:=List.mem_of_getElem? hx
  obtain⟨hlast,hle,hge⟩:=h.last ht hx
  rw[lv_neg]at hlast hle hge
  unfold learnQ
  by_cases h1:q.natAbs∈a.seen∨v.level.getD q.natAbs 0=0
  · rw [if_pos h1]
    refine⟨hL,fun k hk=>hk,?_,rfl⟩
    rcases h1 with e | e
    · exact .inr e
    · exact .inl e
  · rw[if_neg h1]
    have hns:q.natAbs ∉ a.seen:=fun e=>h1 (.inl e)
    have hn0:lv v q≠0:=fun e=>h1 (.inr e)
    have hnd:(a.seen++[q.natAbs]).Nodup:=by
      rw[List.nodup_append]
      exact⟨hL.nd,by simp,fun x hx y hy e=>by rw[List.mem_singleton.1 hy]at e;exact hns (by rw[← e];exact hx)⟩
    have hseenA:∀k∈a.seen++[q.natAbs],∃ (i:Nat) (x:Int),v.trail[i]? = some x∧x.natAbs=k∧1≤lv v x:=fun k hk=>by
      rcases List.mem_append.1 hk with e | e
      · exact hL.seenA k e
      · rw[List.mem_singleton.1 e]
        exact⟨j,-q,hx,Int.natAbs_neg q,by rw[lv_neg];omega⟩
    have hcount:∀k,k≤v.trail.length→cnt v.trail (a.seen++[q.natAbs]) t.toNat k=cnt v.trail a.seen t.toNat k+if j<k∧t.toNat≤j then 1 else 0:=by
      intro k
      induction k with
      | zero=>intro _;rw[if_neg (by omega)];simp[cnt]
      | succ k ih =>
        intro hk
        rw[cnt_succ hk,cnt_succ hk,ih (by omega)]
        have hgk:=getD_get (d:=(0:Int)) (show k<v.trail.length by omega)
        by_cases hjk:j=k
        · have e:(v.trail.getD k 0).natAbs=q.natAbs:=by rw[← hjk,getD_of hx,Int.natAbs_neg]
          rw[e]
          have A:¬ (j<k∧t.toNat≤j):=by omega
          have C:¬ (t.toNat≤k∧q.natAbs∈a.seen):=fun z=>hns z.2
          by_cases hm:t.toNat≤k
          · have B : t.toNat ≤ k ∧ q.natAbs ∈ a.seen ++ [q.natAbs] := ⟨hm, by simp⟩
            have D:j<k+1∧t.toNat≤j:=by omega
            rw[if_neg A,if_pos B,if_neg C,if_pos D]
          · have B : ¬ (t.toNat ≤ k ∧ q.natAbs ∈ a.seen ++ [q.natAbs]) := fun z => hm z.1
            have D:¬ (j<k+1∧t.toNat≤j):=by omega
            rw[if_neg A,if_neg B,if_neg C,if_neg D]
        · have hne : (v.trail.getD k 0).natAbs ≠ q.natAbs := fun e => hjk (h.inv.one hx hgk (by rw [Int.natAbs_neg]; exact e.symm))
          have e1:((v.trail.getD k 0).natAbs∈a.seen++[q.natAbs])↔(v.trail.getD k 0).natAbs∈a.seen:=by
            rw[List.mem_append,List.mem_singleton]
            exact⟨fun z=>z.resolve_right hne,.inl⟩
          have hAD:(j<k+1∧t.toNat≤j)↔(j<k∧t.toNat≤j):=by omega
          have hBC:(t.toNat≤k∧(v.trail.getD k 0).natAbs∈a.seen++[q.natAbs])↔(t.toNat≤k∧(v.trail.getD k 0).natAbs∈a.seen):=by rw[e1]
          simp only[hAD,hBC]
          exact Nat.add_right_comm _ _ _
    have hcap:∀ (S:List Nat) k,cnt v.trail S t.toNat k=cnt v.trail S t.toNat (min k v.trail.length):=fun S k=>by
      unfold cnt
      congr 2
      rcases Nat.lt_or_ge k v.trail.length with z | z
      · rw[Nat.min_eq_left (by omega)]
      · rw[Nat.min_eq_right z,List.take_length,List.take_of_length_le z]
    have hjl:=lt_of_get hx
    have hcountA:cnt v.trail (a.seen++[q.natAbs]) t.toNat at_=cnt v.trail a.seen t.toNat at_+if t.toNat≤j then 1 else 0:=by
      rw[hcap,hcap a.seen,hcount _ (Nat.min_le_right _ _)]
      congr 1
      by_cases z:t.toNat≤j
      · rw[if_pos z,if_pos ⟨by omega,z⟩]
      · rw[if_neg z,if_neg (fun y=>z y.2)]
    by_cases hd:v.level.getD q.natAbs 0=(v.limits.length:Int)
    · rw [if_pos hd]
      refine⟨⟨hseenA,hnd,fun y hy=>?_,fun y hy hs hl=>?_,hL.litsnd,?_,hL.lev⟩,fun k hk=>List.mem_append_left _ hk,.inr (List.mem_append_right _ (List.mem_singleton.2 rfl)),rfl⟩
      · obtain⟨g1,g2,g3,g4⟩:=hL.lits y hy
        exact⟨g1,List.mem_append_left _ g2,g3,g4⟩
      · rcases List.mem_append.1 hs with e | e
        · exact hL.litsC y hy e hl
        · exfalso
          have e:=List.mem_singleton.1 e
          unfold lv at hl
          rw[e,hd]at hl
          omega
      · show a.opn+1=_
        rw[hL.opn,hcountA,if_pos (hlast.1 hd)]
        simp
    · rw[if_neg hd]
      have hnm:¬ t.toNat≤j:=fun z=>hd (hlast.2 z)
      refine⟨⟨hseenA,hnd,fun y hy=>?_,fun y hy hs hl=>?_,?_,?_,?_⟩,fun k hk=>List.mem_append_left _ hk,.inr (List.mem_append_right _ (List.mem_singleton.2 rfl)),rfl⟩
      · rcases List.mem_append.1 hy with e | e
        · obtain⟨g1,g2,g3,g4⟩:=hL.lits y e
          exact⟨g1,List.mem_append_left _ g2,g3,g4⟩
        · rw[List.mem_singleton.1 e]
          have hd':lv v q≠(v.limits.length:Int):=hd
          exact⟨hmem,List.mem_append_right _ (List.mem_singleton.2 rfl),by omega,by omega⟩
      · rcases List.mem_append.1 hs with e | e
        · exact List.mem_append_left _ (hL.litsC y hy e hl)
        · have e:=List.mem_singleton.1 e
          obtain⟨i,hi⟩:=mem_at.1 hy
          have hij:=h.inv.one hi hx (by rw[Int.natAbs_neg];exact e)
          subst hij
          rw[hx]at hi
          injection hi with hi
          rw[← hi,Int.neg_neg]
          exact List.mem_append_right _ (List.mem_singleton.2 rfl)
      · show((a.lits++[q]).map Int.natAbs).Nodup
        rw[List.map_append,List.nodup_append]
        refine⟨hL.litsnd,by simp,fun x hx y hy e=>?_⟩
        obtain⟨z,hz,rfl⟩:=List.mem_map.1 hx
        have:y=q.natAbs:=by simpa using hy
        rw[this]at e
        exact hns (by rw[← e];exact(hL.lits z hz).2.1)
      · show a.opn=_
        rw[hL.opn,hcountA,if_neg hnm]
        simp
      · refine ⟨fun y hy => ?_, .inr ?_⟩
        · show lv v y≤max a.lev (lv v q)
          rcases List.mem_append.1 hy with e | e
          · have:=hL.lev.1 y e;omega
          · rw[List.mem_singleton.1 e];omega
        · show ∃y∈a.lits++[q],lv v y=max a.lev (lv v q)
          by_cases z:a.lev≤lv v q
          · exact⟨q,List.mem_append_right _ (List.mem_singleton.2 rfl),by omega⟩
          · rcases hL.lev.2 with ⟨_, e⟩ | ⟨y, hy, e⟩
            · omega
            · exact⟨y,List.mem_append_left _ hy,by omega⟩
theorem LI.fold{n:Nat}{v:Sv}(h:CT n v){t:Int}(ht:v.limits[v.limits.length - 1]? = some t){at_:Nat}:∀ (Q:List Int){a:Lst},LI v t.toNat a at_→(∀q∈Q,∃j,j<at_∧v.trail[j]? = some (-q)) →
    LI v t.toNat (Q.foldl (learnQ v) a) at_∧(∀k∈a.seen,k∈(Q.foldl (learnQ v) a).seen)∧(∀q∈Q,lv v q=0∨q.natAbs∈(Q.foldl (learnQ v) a).seen)∧(Q.foldl (learnQ v) a).hd=a.hd
  | [],a,hL,_=>⟨hL,fun k hk=>hk,by simp,rfl⟩
  | q::Q,a,hL,hq=>by
    obtain⟨g1,g2,g3,g4⟩:=hL.step h ht (hq q (List.mem_cons_self ..))
    obtain⟨k1,k2,k3,k4⟩:=LI.fold h ht Q g1 fun y hy=>hq y (List.mem_cons_of_mem _ hy)
    refine⟨k1,fun k hk=>k2 k (g2 k hk),fun y hy=>?_,k4.trans g4⟩
    rcases List.mem_cons.1 hy with e | e
    · rw[e];exact g3.imp id (k2 _)
    · exact k3 y e
structure Learned(v:Sv)(r:Lst):Prop where
  uip:∃ (i:Nat) (u:Int),v.trail[i]? = some u∧lv v u=(v.limits.length:Int)∧r.hd=-u
  lits:∀q∈r.lits,-q∈v.trail∧1≤lv v q∧lv v q<(v.limits.length:Int)
  nd:(r.lits.map Int.natAbs).Nodup
  lev:(∀q∈r.lits,lv v q≤r.lev)∧(r.lits=[]∧r.lev=0∨∃q∈r.lits,lv v q=r.lev)
  imp:∀σ,Db v.cl σ→Sat σ r.hd∨∃q∈r.lits,Sat σ q
theorem cnt_empty(tr:List Int)(seen:List Nat){m k:Nat}(h:k≤m):cnt tr seen m k=0:=by
  unfold cnt
  rw[List.drop_of_length_le (by rw[List.length_take];omega)]
  rfl
theorem mem_rest{l y:Int}{ls:List Int}:y∈rest l ls↔y∈ls∧y≠l:=by
  unfold rest
  rw[List.mem_filter]
  simp
theorem learn_ex {n : Nat} {v : Sv} (h : CT n v) {t : Int} (ht : v.limits[v.limits.length - 1]? = some t) : ∀ (at_ : Nat) (c : Nat) (l : Int) (a : Lst) (ls : List Int) (b : Bool × Bool), at_ ≤ v.trail.length → LI v t.toNat a at_ → v.cl c = some (ls, b) → (∀ y ∈ rest l ls, ∃ j, j < at_ ∧ v.trail[j]? = some (-y)) → 1 ≤ ((rest l ls).foldl (learnQ v) a).opn →
    (∀σ,Db v.cl σ→Sat σ l→(∃q∈a.lits,Sat σ q)∨∃ (j:Nat) (x:Int),j<at_∧t.toNat≤j∧v.trail[j]? = some x∧x.natAbs∈a.seen∧Sat σ (-x)) →
    ∃r,LearnR v c a at_ l r∧Learned v r:=by
  intro at_
  induction at_ using Nat.strongRecOn with
  | _ at_ ih =>
  intro c l a ls b hat hL hc hr ho hpre
  obtain⟨f1,f2,f3,f4⟩:=hL.fold h ht (rest l ls) hr
  generalize ha:(rest l ls).foldl (learnQ v) a=a' at *
  have hQ : ∀ σ, Db v.cl σ → (∃ q ∈ a'.lits, Sat σ q) ∨ ∃ (j : Nat) (x : Int), j < at_ ∧ t.toNat ≤ j ∧ v.trail[j]? = some x ∧ x.natAbs ∈ a'.seen ∧ Sat σ (-x) := by
    intro σ hσ
    obtain⟨y,hy,hs⟩:=hσ c ls b hc
    by_cases e:y=l
    · rw [e] at hs
      rcases hpre σ hσ hs with⟨q,hq,hsq⟩ | ⟨j,x,j1,j2,j3,j4,j5⟩
      · obtain⟨g1,g2,g3,g4⟩:=hL.lits q hq
        have:=f1.litsC (-q) g1 (by rw[Int.natAbs_neg];exact f2 _ g2) (by rw[lv_neg];exact g4)
        rw[Int.neg_neg]at this
        exact .inl ⟨q,this,hsq⟩
      · exact .inr ⟨j,x,j1,j2,j3,f2 _ j4,j5⟩
    · obtain ⟨j, j1, j2⟩ := hr y (mem_rest.2 ⟨hy, e⟩)
      obtain⟨hlast,hle,hge⟩:=h.last ht j2
      rw[lv_neg]at hlast hle hge
      rcases f3 y (mem_rest.2 ⟨hy,e⟩)with z | z
      · exact(hs.neg (h.zero hσ j (-y) j2 (by rw[lv_neg];exact z))).elim
      · by_cases hd : lv v y = (v.limits.length : Int)
        · exact .inr ⟨j,-y,j1,hlast.1 hd,j2,by rw[Int.natAbs_neg];exact z,by rw[Int.neg_neg];exact hs⟩
        · have:=f1.litsC (-y) (List.mem_of_getElem? j2) (by rw[Int.natAbs_neg];exact z) (by rw[lv_neg];omega)
          rw[Int.neg_neg]at this
          exact .inl ⟨y,this,hs⟩
  have hcn:1≤cnt v.trail a'.seen t.toNat at_:=by have:=f1.opn;omega
  obtain⟨i,k1,k2,k3,k4,k5,k6⟩:=seek_cnt hat hcn
  have hil:i<v.trail.length:=by omega
  have hg:=getD_get (d:=(0:Int)) hil
  generalize hu:v.trail.getD i 0=u at *
  have hlu:lv v u=(v.limits.length:Int):=(h.last ht hg).1.2 k2
  have hQ':∀σ,Db v.cl σ→(∃q∈a'.lits,Sat σ q)∨(∃ (j:Nat) (x:Int),j<i∧t.toNat≤j∧v.trail[j]? = some x∧x.natAbs∈a'.seen∧Sat σ (-x))∨Sat σ (-u):=by
    intro σ hσ
    rcases hQ σ hσ with q | ⟨j,x,j1,j2,j3,j4,j5⟩
    · exact .inl q
    · rcases Nat.lt_trichotomy j i with z | z | z
      · exact .inr (.inl ⟨j,x,z,j2,j3,j4,j5⟩)
      · subst z
        rw[hg]at j3
        injection j3 with j3
        rw[j3]
        exact .inr (.inr j5)
      · exact absurd j4 (by have:=k6 j z j1;rw[getD_of j3]at this;exact this)
  by_cases h1:a'.opn=1
  · have hci:cnt v.trail a'.seen t.toNat i=0:=by have:=f1.opn;omega
    refine⟨{ a' with opn:=0,hd:=-u },?_,⟨i,u,hg,hlu,rfl⟩,fun q hq=>?_,f1.litsnd,f1.lev,fun σ hσ=>?_⟩
    · have:=LearnR.last (v:=v) (at_:=at_) hc ha k1 h1
      rw[hu]at this
      exact this
    · obtain⟨g1,g2,g3,g4⟩:=f1.lits q hq
      exact⟨g1,g3,g4⟩
    · rcases hQ' σ hσ with q | ⟨j, x, j1, j2, j3, j4, j5⟩ | q
      · exact .inr q
      · exact absurd j4 (cnt_zero hci j1 j2 j3)
      · exact .inl q
  · have hci : 1 ≤ cnt v.trail a'.seen t.toNat i := by have := f1.opn; omega
    have hmi:t.toNat<i:=by
      rcases Nat.lt_or_ge t.toNat i with z | z
      · exact z
      · rw[cnt_empty _ _ z]at hci;omega
    have hil':(i:Int) ∉ v.limits:=fun q=>by
      obtain⟨p,hp⟩:=mem_at.1 q
      have hpl:=lt_of_get hp
      have ht0:=h.lim t (List.mem_of_getElem? ht)
      by_cases e:p=v.limits.length - 1
      · rw[e,ht]at hp
        injection hp with hp
        omega
      · have:=(sorted_take h.sorted ht).1 (i:Int) (mem_tk.2 ⟨p,by omega,hp⟩)
        omega
    rcases h.why i u hg with⟨_,q⟩ | ⟨c',ls',b',w1,w2,w3,w4⟩
    · exact absurd q hil'
    · have hL2 : LI v t.toNat { a' with opn := a'.opn - 1 } i := ⟨f1.seenA, f1.nd, f1.lits, f1.litsC, f1.litsnd, by show a'.opn - 1 = (cnt v.trail a'.seen t.toNat i : Int); have := f1.opn; omega, f1.lev⟩
      have hr2:∀y∈rest u ls',∃j,j<i∧v.trail[j]? = some (-y):=fun y hy=>by
        obtain⟨y1,y2⟩:=mem_rest.1 hy
        exact mem_tk.1 (w4 y y1 y2)
      obtain⟨g1,g2,g3,g4⟩:=hL2.fold h ht (rest u ls') hr2
      have hop2:1≤((rest u ls').foldl (learnQ v) { a' with opn:=a'.opn - 1 }).opn:=by
        have e1:=g1.opn
        have e2:=cnt_mono (tr:=v.trail) (seen:=a'.seen) (seen':=((rest u ls').foldl (learnQ v) { a' with opn:=a'.opn - 1 }).seen) g2 t.toNat i
        omega
      obtain⟨r,r1,r2⟩:=ih i k3 c' u { a' with opn:=a'.opn - 1 } ls' b' (by omega) hL2 w2 hr2 hop2 (fun σ hσ hs=>by
        rcases hQ' σ hσ with q | q | q
        · exact .inl q
        · exact .inr q
        · exact(hs.neg q).elim)
      refine⟨r,?_,r2⟩
      have hw:v.why.getD (v.trail.getD i 0).natAbs none=some c':=by rw[hu];exact w1
      have:=LearnR.more (v:=v) (at_:=at_) (r:=r) hc ha k1 (by omega) hw
      rw[hu]at this
      exact this r1
theorem learn_first{n:Nat}{v:Sv}(h:CT n v)(hlim:v.limits≠[]){c:Nat}{l:Int}(hf:Fails v c l)(hl:lv v l=(v.limits.length:Int)):∃r,LearnR v c lst0 v.trail.length 0 r∧Learned v r:=by
  obtain⟨ls,b,hc,h2,hfalse,hmem⟩:=hf
  have hpos:0<v.limits.length:=List.length_pos_iff.2 hlim
  have ht:=getD_get (d:=(0:Int)) (show v.limits.length - 1<v.limits.length by omega)
  generalize v.limits.getD (v.limits.length - 1) 0=t at ht
  have hr:∀y∈rest 0 ls,∃j,j<v.trail.length∧v.trail[j]? = some (-y):=fun y hy=>by
    obtain⟨j,hj⟩:=mem_at.1 (hfalse y (mem_rest.1 hy).1)
    exact⟨j,lt_of_get hj,hj⟩
  have hL0:LI v t.toNat lst0 v.trail.length:=LI.start
  obtain⟨f1,f2,f3,f4⟩:=hL0.fold h ht (rest 0 ls) hr
  have hl0:l≠0:=((h.cls c ls b hc).1.1 l hmem).1
  refine learn_ex h ht v.trail.length c 0 lst0 ls b (Nat.le_refl _) hL0 hc hr ?_ (fun σ hσ hs=>?_)
  · have hlr:l∈rest 0 ls:=mem_rest.2 ⟨hmem,hl0⟩
    obtain⟨j,j1,j2⟩:=hr l hlr
    have hm:=(h.last ht j2).1.1 (by rw[lv_neg];exact hl)
    rcases f3 l hlr with z | z
    · omega
    · have:=cnt_pos j1 hm j2 (by rw[Int.natAbs_neg];exact z)
      rw[f1.opn]
      omega
  · unfold Sat at hs
    omega
def I7(tr:List Int)(t:Nat)(ls:List Int):Prop:=(∃y∈ls,y∈tr.take t)∨∃y∈ls,∃z∈ls,y≠z∧-y ∉ tr.take t∧-z ∉ tr.take t
theorem I7.perm{tr:List Int}{t:Nat}{ls ls':List Int}(h:I7 tr t ls)(hp:ls'.Perm ls):I7 tr t ls':=by
  rcases h with⟨y,h1,h2⟩ | ⟨y,h1,z,h2,h3⟩
  · exact .inl ⟨y,hp.mem_iff.2 h1,h2⟩
  · exact .inr ⟨y,hp.mem_iff.2 h1,z,hp.mem_iff.2 h2,h3⟩
theorem I7.take{tr tr':List Int}{t:Nat}{ls:List Int}(h:I7 tr t ls)(e:tr'.take t=tr.take t):I7 tr' t ls:=by
  unfold I7
  rw[e]
  exact h
def Models(σ:Nat→Bool)(F:List (List Int)):Prop:=∀f∈F,∃y∈f,Sat σ y
structure CI(n:Nat)(F:List (List Int))(h:Nat)(v:Sv):Prop where
  ct:CT n v
  cw:CW v h []
  hb:h≤v.trail.length
  lh:∀x∈v.limits,x≤(h:Int)
  unit:∀c ls b,v.cl c=some (ls,b)→ls.length=1→ls.getD 0 0∈v.trail∧lv v (ls.getD 0 0)=0
  i7:∀ (j:Nat) (t:Int),v.limits[j]? = some t→∀c ls b,v.cl c=some (ls,b)→I7 v.trail t.toNat ls
  imp:∀σ,Models σ F→Db v.cl σ
  cover:∀f∈F,(∃y∈f,-y∈f)∨∃c ls b,v.cl c=some (ls,b)∧∀y∈ls,y∈f
  phase:PhaseOk n v
theorem Db.same{a b:Nat→Option Clause}(h:ClSame a b){σ:Nat→Bool}(k:Db a σ):Db b σ:=fun c ls t hc=>by
  obtain⟨ls',h1,h2⟩:=h.back hc
  obtain⟨y,q1,q2⟩:=k c ls' t h1
  exact⟨y,h2.mem_iff.2 q1,q2⟩
theorem CI.of{n h:Nat}{F:List (List Int)}{v v':Sv}(k:CI n F h v)(hi:Inv1 n v')(h1:v'.trail=v.trail)(h2:v'.limits=v.limits)(h3:v'.level=v.level)(h4:v'.why=v.why)(h5:v'.cl=v.cl)(h6:v'.watches=v.watches)(h7:v'.phase=v.phase):CI n F h v':=by
  refine⟨k.ct.of hi h1 h2 h3 h4 h5,⟨?_,?_,?_,?_⟩,by rw[h1];exact k.hb,by rw[h2];exact k.lh,?_,?_,by rw[h5];exact k.imp,by rw[h5];exact k.cover,by unfold PhaseOk;rw[h7];exact k.phase⟩
  · rw[h5,h6];exact k.cw.wat
  · rw[h5,h6];exact k.cw.wcl
  · rw[h6];exact k.cw.wnd
  · unfold Wok lv;rw[h1,h3,h5];exact k.cw.wok
  · unfold lv;rw[h1,h3,h5];exact k.unit
  · rw[h1,h2,h5];exact k.i7
theorem CI.prog{n h h':Nat}{F:List (List Int)}{v v':Sv}(k:CI n F h v)(p:Prog v v')(hc:CT n v')(hw:CW v' h' [])(hb:h'≤v'.trail.length)(hl:∀x∈v.limits,x≤(h':Int)):CI n F h' v':=by
  obtain⟨T,eT⟩:=p.tr
  refine⟨hc,hw,hb,by rw[p.limits];exact hl,fun c ls b q hlen=>?_,fun j t ht c ls b q=>?_,fun σ hσ=>(k.imp σ hσ).same p.cl,fun f hf=>?_,by unfold PhaseOk;rw[p.phase];exact k.phase⟩
  · obtain⟨ls',q1,q2⟩:=p.cl.back q
    have hl':ls'.length=1:=by rw[← q2.length_eq];exact hlen
    have e:ls=ls':=by
      obtain⟨x,rfl⟩:=List.length_eq_one_iff.1 hl'
      obtain⟨y,rfl⟩:=List.length_eq_one_iff.1 hlen
      have:y∈[x]:=q2.mem_iff.1 (List.mem_singleton.2 rfl)
      rw[List.mem_singleton.1 this]
    subst e
    obtain⟨g1,g2⟩:=k.unit c ls b q1 hlen
    exact⟨p.mem g1,by rw[p.lev _ (.inl g1)];exact g2⟩
  · obtain⟨ls',q1,q2⟩:=p.cl.back q
    rw[p.limits]at ht
    have:=k.ct.below t (List.mem_of_getElem? ht)
    refine((k.i7 j t ht c ls' b q1).perm q2).take ?_
    rw[eT,List.take_append_of_le_length (by omega)]
  · rcases k.cover f hf with q | ⟨c, ls, b, q1, q2⟩
    · exact .inl q
    · obtain⟨ls',r1,r2⟩:=(p.cl c).2 ls b q1
      exact .inr ⟨c,ls',b,r1,fun y hy=>q2 y (r2.mem_iff.1 hy)⟩
theorem CI.back {n h : Nat} {F : List (List Int)} {v : Sv} (k : CI n F h v) {j : Nat} {t : Int} (ht : v.limits[j]? = some t) : CI n F t.toNat (backV v j) ∧ (backV v j).trail = v.trail.take t.toNat ∧ (backV v j).limits = v.limits.take j ∧ (backV v j).head = t := by
  obtain⟨b1,b2,b3,b4,b5⟩:=k.ct.back ht
  have htm:=List.mem_of_getElem? ht
  have ht0:=k.ct.lim t htm
  have htl:=k.ct.below t htm
  have hth:=k.lh t htm
  have hlt:(v.trail.take t.toNat).length=t.toNat:=by rw[List.length_take];omega
  obtain⟨ph,va,wh,tr,li,hd,e,_⟩:=backV_eq v j
  have ecl:(backV v j).cl=v.cl:=by rw[e]
  have ewa:(backV v j).watches=v.watches:=by rw[e]
  have elv:(backV v j).level=v.level:=by rw[e]
  have low:∀ {x:Int},x∈v.trail→lv v x≤(j:Int)→x∈v.trail.take t.toNat:=by
    intro x hx hl
    obtain⟨i,hi⟩:=mem_at.1 hx
    have hli:lv v x=(lvl v.limits i:Int):=k.ct.lev i x hi
    refine mem_tk.2 ⟨i,?_,hi⟩
    rcases Nat.lt_or_ge i t.toNat with q | q
    · exact q
    · have:=lvl_ge k.ct.sorted ht (i:=i) (by omega)
      omega
  have high:∀ {x:Int},x∈v.trail.take t.toNat→lv v x≤(j:Int):=by
    intro x hx
    obtain⟨i,hi,ei⟩:=mem_tk.1 hx
    have hli:lv v x=(lvl v.limits i:Int):=k.ct.lev i x ei
    have:=(lvl_lt k.ct.sorted ht (i:=i) (by omega)).2
    omega
  refine⟨⟨b1,⟨?_,?_,?_,?_⟩,?_,?_,?_,?_,?_,?_,b5 k.phase⟩,b2,b3,b4⟩
  · rw[ecl,ewa];exact k.cw.wat
  · rw[ecl,ewa];exact k.cw.wcl
  · rw[ewa];exact k.cw.wnd
  · intro c ls b hc h2
    rw[ecl]at hc
    have hok:Wok v t.toNat ls:=((k.cw.wok c ls b hc h2).2 (by simp)).mono (by omega)
    have:Wok (backV v j) t.toNat ls:=by
      unfold Wok lv
      rw[b2,elv,List.take_take,Nat.min_self]
      refine⟨fun q=>?_,fun q=>?_⟩
      · obtain⟨r1,r2⟩:=hok.1 q
        have:=high q
        rw[lv_neg]at this
        exact⟨low r1 (by omega),r2⟩
      · obtain⟨r1,r2⟩:=hok.2 q
        have:=high q
        rw[lv_neg]at this
        exact⟨low r1 (by omega),r2⟩
    exact⟨this.mono (by omega),fun _=>this⟩
  · rw[b2,hlt];exact Nat.le_refl _
  · rw[b3]
    intro x hx
    have:=(sorted_take k.ct.sorted ht).1 x hx
    omega
  · intro c ls b hc hl
    rw[ecl]at hc
    obtain⟨g1,g2⟩:=k.unit c ls b hc hl
    unfold lv
    rw[b2,elv]
    exact⟨low g1 (by omega),g2⟩
  · intro i s hs c ls b hc
    rw[b3]at hs
    rw[ecl]at hc
    have hil:=lt_of_get hs
    have hij:i<j:=by rw[List.length_take]at hil;omega
    have hs':v.limits[i]? = some s:=by rw[List.getElem?_take_of_lt hij]at hs;exact hs
    have hst:=(sorted_take k.ct.sorted ht).1 s (mem_tk.2 ⟨i,hij,hs'⟩)
    have hs0:=k.ct.lim s (List.mem_of_getElem? hs')
    refine(k.i7 i s hs' c ls b hc).take ?_
    rw[b2,List.take_take,Nat.min_eq_left (by omega)]
  · rw[ecl];exact k.imp
  · rw[ecl];exact k.cover
theorem CW.assign{n h:Nat}{v:Sv}{X:List Nat}(hi:Inv1 n v)(k:CW v h X)(hh:h≤v.trail.length){x:Int}(ho:v.value.getD x.natAbs 0=0)(w:Option Nat):CW (assignV v x w) h X:=by
  have habs:∀ {y:Int},(y∈v.trail∨-y∈v.trail)→y.natAbs≠x.natAbs:=by
    rintro y (hy | hy)
    · exact hi.abs_ne ho hy
    · have:=hi.abs_ne ho hy
      rw[Int.natAbs_neg]at this
      exact this
  have hlev:∀ {y:Int},(y∈v.trail∨-y∈v.trail)→lv (assignV v x w) y=lv v y:=fun hy=>by
    show(v.level.set _ _).getD _ 0=_
    rw[getD_set_ne (habs hy)]
  have htk:∀hh',hh'≤h→(v.trail++[x]).take hh'=v.trail.take hh':=fun hh' hhh=>List.take_append_of_le_length (by omega)
  have hoth:∀ (ms:List Int) hh',hh'≤h→Wok v hh' ms→Wok (assignV v x w) hh' ms:=by
    intro ms hh' hhh hok
    refine⟨fun q=>?_,fun q=>?_⟩
    · have q:-(ms.getD 0 0)∈(v.trail++[x]).take hh':=q
      rw[htk hh' hhh]at q
      obtain⟨k1,k2⟩:=hok.1 q
      refine⟨List.mem_append_left _ k1,?_⟩
      rw[hlev (.inl k1),hlev (.inr (List.mem_of_mem_take q))]
      exact k2
    · have q:-(ms.getD 1 0)∈(v.trail++[x]).take hh':=q
      rw[htk hh' hhh]at q
      obtain⟨k1,k2⟩:=hok.2 q
      refine⟨List.mem_append_left _ k1,?_⟩
      rw[hlev (.inl k1),hlev (.inr (List.mem_of_mem_take q))]
      exact k2
  exact⟨k.wat,k.wcl,k.wnd,fun c ls b hc h2=>⟨hoth ls _ (by omega) (k.wok c ls b hc h2).1,fun hx=>hoth ls _ (Nat.le_refl _) ((k.wok c ls b hc h2).2 hx)⟩⟩
theorem CI.guess {n : Nat} {F : List (List Int)} {v : Sv} (k : CI n F v.trail.length v) {b : Nat} (h1 : 1 ≤ b) (hb : b ≤ n) (ho : v.value.getD b 0 = 0) : CI n F v.trail.length (guessV v b) ∧ (guessV v b).trail.length = v.trail.length + 1 := by
  have hph:=k.phase b h1 hb
  have hV:VL n ((b:Int) * v.phase.getD b 0):=by rcases hph with e | e<;>rw[e]<;>constructor<;>omega
  have hab:((b:Int) * v.phase.getD b 0).natAbs=b:=by rcases hph with e | e<;>rw[e]<;>omega
  have ho':v.value.getD ((b:Int) * v.phase.getD b 0).natAbs 0=0:=by rw[hab];exact ho
  have hct:=k.ct.guess hV ho'
  have hi:=k.ct.inv
  have hgt:(guessV v b).trail.length=v.trail.length+1:=by
    show(v.trail++[_]).length=_
    rw[List.length_append];rfl
  refine⟨⟨hct,?_,by rw[hgt];omega,?_,?_,?_,k.imp,k.cover,k.phase⟩,hgt⟩
  · have := k.cw.assign hi (Nat.le_refl _) ho' none
    exact ⟨this.wat, this.wcl, this.wnd, fun c ls b' hc h2 => by
      obtain⟨r1,r2⟩:=this.wok c ls b' hc h2
      have conv:∀hh,hh≤v.trail.length→Wok v hh ls→Wok (guessV v b) hh ls:=by
        intro hh hhh hok
        have habs:∀ {y:Int},(y∈v.trail∨-y∈v.trail)→y.natAbs≠((b:Int) * v.phase.getD b 0).natAbs:=by
          rintro y (hy | hy)
          · exact hi.abs_ne ho' hy
          · have:=hi.abs_ne ho' hy
            rw[Int.natAbs_neg]at this
            exact this
        have hlev:∀ {y:Int},(y∈v.trail∨-y∈v.trail)→lv (guessV v b) y=lv v y:=fun hy=>by
          show(v.level.set _ _).getD _ 0=_
          rw[getD_set_ne (habs hy)]
        have htk:(v.trail++[(b:Int) * v.phase.getD b 0]).take hh=v.trail.take hh:=List.take_append_of_le_length hhh
        refine⟨fun q=>?_,fun q=>?_⟩
        · have q:-(ls.getD 0 0)∈(v.trail++[(b:Int) * v.phase.getD b 0]).take hh:=q
          rw[htk]at q
          obtain⟨k1,k2⟩:=hok.1 q
          refine⟨List.mem_append_left _ k1,?_⟩
          rw[hlev (.inl k1),hlev (.inr (List.mem_of_mem_take q))]
          exact k2
        · have q:-(ls.getD 1 0)∈(v.trail++[(b:Int) * v.phase.getD b 0]).take hh:=q
          rw[htk]at q
          obtain⟨k1,k2⟩:=hok.2 q
          refine⟨List.mem_append_left _ k1,?_⟩
          rw[hlev (.inl k1),hlev (.inr (List.mem_of_mem_take q))]
          exact k2
      obtain⟨q1,q2⟩:=k.cw.wok c ls b' hc h2
      exact⟨conv _ (by omega) q1,fun hx=>conv _ (Nat.le_refl _) (q2 hx)⟩⟩
  · intro x hx
    have hx:x∈v.limits++[(v.trail.length:Int)]:=hx
    rcases List.mem_append.1 hx with q | q
    · exact k.lh x q
    · rw[List.mem_singleton.1 q];omega
  · intro c ls b' hc hl
    obtain⟨g1,g2⟩:=k.unit c ls b' hc hl
    refine⟨List.mem_append_left _ g1,?_⟩
    show(v.level.set _ _).getD _ 0=0
    rw[getD_set_ne (hi.abs_ne ho' g1)]
    exact g2
  · intro j t ht c ls b' hc
    have ht:(v.limits++[(v.trail.length:Int)])[j]? = some t:=ht
    have htk:∀s,s≤v.trail.length→(guessV v b).trail.take s=v.trail.take s:=fun s hs=>List.take_append_of_le_length hs
    rcases get_snoc ht with⟨q1,q2⟩ | ⟨q1,q2⟩
    · have:=k.ct.below t (List.mem_of_getElem? q2)
      exact(k.i7 j t q2 c ls b' hc).take (htk _ (by omega))
    · subst q2
      have:I7 v.trail v.trail.length ls:=by
        unfold I7
        rw[List.take_length]
        obtain⟨c1,c2,c3,c4⟩:=k.ct.cls c ls b' hc
        by_cases hl1:ls.length=1
        · obtain⟨g1,g2⟩:=k.unit c ls b' hc hl1
          exact .inl ⟨ls.getD 0 0,List.mem_of_getElem? (getD_get (by omega)),g1⟩
        · have h2:2≤ls.length:=by
            have:=List.length_pos_iff.2 c2
            omega
          have hok:=(k.cw.wok c ls b' hc h2).2 (by simp)
          unfold Wok at hok
          rw[List.take_length]at hok
          have m0:ls.getD 0 0∈ls:=List.mem_of_getElem? (getD_get (by omega))
          have m1:ls.getD 1 0∈ls:=List.mem_of_getElem? (getD_get (by omega))
          by_cases f0:-(ls.getD 0 0)∈v.trail
          · exact .inl ⟨_,m1,(hok.1 f0).1⟩
          · by_cases f1 : -(ls.getD 1 0) ∈ v.trail
            · exact .inl ⟨_,m0,(hok.2 f1).1⟩
            · refine .inr ⟨_,m0,_,m1,fun e=>?_,f0,f1⟩
              have:=nodup_abs c3 (i:=0) (j:=1) (by omega) (by omega) (by rw[e])
              cases this
      have e:((v.trail.length:Int)).toNat=v.trail.length:=by omega
      rw[e]
      exact this.take (htk _ (Nat.le_refl _))
def putW(W:List (List Nat))(c:Nat)(L:List Int):List (List Nat):=if 1<L.length then wPut (wPut W (place (L.getD 0 0)) c) (place (L.getD 1 0)) c else W
def withC(v:Sv)(c:Nat)(L:List Int)(b:Bool×Bool):Sv:={ v with cl:=clPut v.cl c (L,b),watches:=putW v.watches c L }
theorem clPut_get{cl:Nat→Option Clause}{c d:Nat}{L ms:List Int}{b t:Bool×Bool}(h:clPut cl c (L,b) d=some (ms,t)):(d=c∧ms=L∧t=b)∨(d≠c∧cl d=some (ms,t)):=by
  unfold clPut at h
  by_cases e:d=c
  · rw[if_pos e]at h
    injection h with h
    injection h with q1 q2
    exact .inl ⟨e,q1.symm,q2.symm⟩
  · rw[if_neg e]at h
    exact .inr ⟨e,h⟩
theorem putW_get{W:List (List Nat)}{c:Nat}{L:List Int}(h2:1<L.length)(h0:place (L.getD 0 0)<W.length)(h1:place (L.getD 1 0)<W.length)(hne:place (L.getD 0 0)≠place (L.getD 1 0))(k:Nat):
    (putW W c L).getD k []=if k=place (L.getD 1 0)∨k=place (L.getD 0 0)then W.getD k []++[c]else W.getD k []:=by
  unfold putW
  rw[if_pos h2,getD_put (by rw[wPut_len];exact h1)]
  by_cases e1:k=place (L.getD 1 0)
  · rw[if_pos e1,if_pos (.inl e1),getD_put h0,if_neg (fun q=>hne q.symm),e1]
  · rw[if_neg e1,getD_put h0]
    by_cases e0:k=place (L.getD 0 0)
    · rw[if_pos e0,if_pos (.inr e0),e0]
    · rw[if_neg e0,if_neg (by rintro(q | q);exact e1 q;exact e0 q)]
theorem Inv1.watched{n:Nat}{v:Sv}(hi:Inv1 n v){k d:Nat}(h:d∈v.watches.getD k []):∃ls b,v.cl d=some (ls,b):=by
  rw[List.getD_eq_getElem?_getD]at h
  cases hk:v.watches[k]? with
  | none=>rw[hk]at h;cases h
  | some M =>
    rw[hk]at h
    obtain⟨ls,b,q,_⟩:=hi.wc M (List.mem_of_getElem? hk) d h
    exact⟨ls,b,q⟩
theorem CW.put {n h : Nat} {w : Sv} (k : CW w h []) (hwc : ∀ k d, d ∈ w.watches.getD k [] → w.cl d ≠ none) {c : Nat} (hc : w.cl c = none) {L : List Int} (hL : ClsOk n L) (hne : L ≠ []) (hnd : (L.map Int.natAbs).Nodup) (hwl : w.watches.length = 2 * n + 2) (b : Bool × Bool) (hok : 2 ≤ L.length → Wok w h L) : CW (withC w c L b) h [] := by
  have hcn:∀k,c ∉ w.watches.getD k []:=fun k q=>hwc k c q hc
  have hold:∀ {d:Nat} {ms:List Int} {t:Bool×Bool},w.cl d=some (ms,t)→d≠c:=fun hd e=>by rw[e,hc]at hd;cases hd
  by_cases h2:1<L.length
  · have v0 := hL.get (k := 0) (by omega)
    have v1:=hL.get (k:=1) h2
    have p0:place (L.getD 0 0)<w.watches.length:=by rw[hwl];exact VL.place v0
    have p1:place (L.getD 1 0)<w.watches.length:=by rw[hwl];exact VL.place v1
    have pne:place (L.getD 0 0)≠place (L.getD 1 0):=fun e=>by
      have:=place_inj v0.1 v1.1 e
      have:=nodup_abs hnd (i:=0) (j:=1) (by omega) (by omega) (by rw[this])
      cases this
    have hg:=putW_get (c:=c) h2 p0 p1 pne
    refine⟨fun d ms t hd hd2=>?_,fun j d ms t hj hd=>?_,fun j=>?_,fun d ms t hd hd2=>?_⟩
    · show d∈(putW w.watches c L).getD _ []∧d∈(putW w.watches c L).getD _ []
      rcases clPut_get hd with⟨rfl,rfl,rfl⟩ | ⟨e,q⟩
      · rw[hg,hg,if_pos (.inr rfl),if_pos (.inl rfl)]
        exact⟨by simp,by simp⟩
      · have:=k.wat d ms t q hd2
        rw[hg,hg]
        constructor
        · split
          · exact List.mem_append_left _ this.1
          · exact this.1
        · split
          · exact List.mem_append_left _ this.2
          · exact this.2
    · have hj':d∈(putW w.watches c L).getD j []:=hj
      rw[hg]at hj'
      clear hj
      rcases clPut_get hd with⟨rfl,rfl,rfl⟩ | ⟨e,q⟩
      · split at hj'
        · rename_i z;exact z.symm
        · exact absurd hj' (hcn j)
      · refine k.wcl j d ms t ?_ q
        split at hj'
        · rcases List.mem_append.1 hj' with z | z
          · exact z
          · exact absurd (List.mem_singleton.1 z) e
        · exact hj'
    · show((putW w.watches c L).getD j []).Nodup
      rw[hg]
      split
      · rw[List.nodup_append]
        exact⟨k.wnd j,by simp,fun a ha d hd e=>by rw[List.mem_singleton.1 hd]at e;exact hcn j (by rw[← e];exact ha)⟩
      · exact k.wnd j
    · rcases clPut_get hd with ⟨rfl, rfl, rfl⟩ | ⟨e, q⟩
      · have:Wok (withC w d ms t) h ms:=hok (by omega)
        exact⟨this.mono (by omega),fun _=>this⟩
      · exact k.wok d ms t q hd2
  · have e:putW w.watches c L=w.watches:=by unfold putW;rw[if_neg h2]
    refine⟨fun d ms t hd hd2=>?_,fun j d ms t hj hd=>?_,fun j=>?_,fun d ms t hd hd2=>?_⟩
    · show d∈(putW w.watches c L).getD _ []∧d∈(putW w.watches c L).getD _ []
      rw[e]
      rcases clPut_get hd with⟨rfl,rfl,rfl⟩ | ⟨e,q⟩
      · omega
      · exact k.wat d ms t q hd2
    · have hj':d∈(putW w.watches c L).getD j []:=hj
      rw[e]at hj'
      clear hj
      rcases clPut_get hd with⟨rfl,rfl,rfl⟩ | ⟨e,q⟩
      · exact absurd hj' (hcn j)
      · exact k.wcl j d ms t hj' q
    · show((putW w.watches c L).getD j []).Nodup
      rw[e];exact k.wnd j
    · rcases clPut_get hd with ⟨rfl, rfl, rfl⟩ | ⟨e, q⟩
      · omega
      · exact k.wok d ms t q hd2
theorem Inv1.withC{n:Nat}{v:Sv}(hi:Inv1 n v){c:Nat}(hc:v.cl c=none){L:List Int}(hL:ClsOk n L)(b:Bool×Bool):Inv1 n (withC v c L b)∧Inv1 n { v with cl:=clPut v.cl c (L,b) }:=by
  have h1:Inv1 n { v with cl:=clPut v.cl c (L,b) }:=by
    obtain⟨⟨hz,hv,hli,hlm⟩,g2,g3,g4,g5⟩:=hi
    refine⟨⟨⟨hz.small,hz.w,hz.value,hz.level,hz.why,hz.heat,hz.phase,hz.trail,hz.limits⟩,hv,hli,hlm⟩,g2,g3,g4,fun M hM d hd=>?_⟩
    obtain⟨ls,t,q1,q2⟩:=g5 M hM d hd
    refine⟨ls,t,?_,q2⟩
    show clPut _ _ _ d=_
    unfold clPut
    rw[if_neg (fun e=>by rw[e,hc]at q1;cases q1)]
    exact q1
  refine⟨?_,h1⟩
  unfold Go.Proofs.Ytilhhmkdcoajnaa.Am.withC putW
  split
  · rename_i h2
    have:=(h1.put (clPut_same _ _ _) hL (by omega) (place (L.getD 0 0))).put (c:=c) (ls:=L) (b:=b) (clPut_same _ _ _) hL (by omega) (place (L.getD 1 0))
    exact this
  · exact h1
structure More(F F':List (List Int))(L:List Int):Prop where
  sub:∀σ,Models σ F'→Models σ F
  cov:∀f∈F',f∈F∨(∃y∈f,-y∈f)∨∀y∈L,y∈f
theorem CI.follow {n h : Nat} {F F' : List (List Int)} {v : Sv} (k : CI n F h v) {c : Nat} (hc : v.cl c = none) {L : List Int} (hL : ClsOk n L) (hne : L ≠ []) (hnd : (L.map Int.natAbs).Nodup) {b : Bool × Bool} (hb : b.2 = false) (hF : More F F' L)
    (ho:v.value.getD (L.getD 0 0).natAbs 0=0) (hr:∀y∈L,y≠L.getD 0 0→-y∈v.trail) (h1:2≤L.length→lv v (L.getD 1 0)=(v.limits.length:Int)) (hu:L.length=1→v.limits=[]) (hi7:∀ (j:Nat) (t:Int),v.limits[j]? = some t→I7 v.trail t.toNat L) (himp:∀σ,Models σ F'→∃y∈L,Sat σ y):
    CI n F' h (assignV (withC v c L b) (L.getD 0 0) (some c)):=by
  have hi:=k.ct.inv
  have hpos:0<L.length:=List.length_pos_iff.2 hne
  have hV0:=hL.get hpos
  obtain⟨hw1,hw2⟩:=hi.withC hc hL b
  have hct0:CT n { v with cl:=clPut v.cl c (L,b) }:=k.ct.put hc hL hne hnd hb hw2
  have hct1:CT n (withC v c L b):=hct0.of hw1 rfl rfl rfl rfl rfl
  have hct:CT n (assignV (withC v c L b) (L.getD 0 0) (some c)):=hct1.assign hV0 ho (clPut_same _ _ _) rfl hr
  have habs:∀ {y:Int},(y∈v.trail∨-y∈v.trail)→y.natAbs≠(L.getD 0 0).natAbs:=by
    rintro y (hy | hy)
    · exact hi.abs_ne ho hy
    · have:=hi.abs_ne ho hy
      rw[Int.natAbs_neg]at this
      exact this
  have hlev:∀ {y:Int},(y∈v.trail∨-y∈v.trail)→lv (assignV v (L.getD 0 0) (some c)) y=lv v y:=fun hy=>by
    show(v.level.set _ _).getD _ 0=_
    rw[getD_set_ne (habs hy)]
  have hl0:lv (assignV v (L.getD 0 0) (some c)) (L.getD 0 0)=(v.limits.length:Int):=by
    show(v.level.set _ _).getD _ 0=_
    rw[getD_set_eq (by rw[hi.fit.siz.level];have:=hV0.2;omega)]
  have hcwA:=k.cw.assign hi k.hb ho (some c)
  have hcw:CW (withC (assignV v (L.getD 0 0) (some c)) c L b) h []:=by
    refine hcwA.put (n:=n) (fun j d hd=>?_) hc hL hne hnd hi.fit.siz.w b (fun h2=>⟨fun q=>?_,fun q=>⟨List.mem_append_right _ (List.mem_singleton.2 rfl),?_⟩⟩)
    · obtain⟨ls,t,e⟩:=hi.watched (k:=j) hd
      intro q
      have q:v.cl d=none:=q
      rw[e]at q;cases q
    · exfalso
      have q:-(L.getD 0 0)∈(v.trail++[L.getD 0 0]).take h:=q
      rw[List.take_append_of_le_length k.hb]at q
      have:=List.mem_of_mem_take q
      exact habs (.inr this) rfl
    · have q:-(L.getD 1 0)∈(v.trail++[L.getD 0 0]).take h:=q
      rw[List.take_append_of_le_length k.hb]at q
      rw[hl0,hlev (.inr (List.mem_of_mem_take q)),h1 h2]
      exact Int.le_refl _
  refine⟨hct,hcw,?_,k.lh,fun d ms t hd hl=>?_,fun j t ht d ms b' hd=>?_,fun σ hσ d ms t hd=>?_,fun f hf=>?_,k.phase⟩
  · show h≤(v.trail++[_]).length
    rw[List.length_append]
    have:=k.hb
    omega
  · rcases clPut_get hd with ⟨rfl, rfl, rfl⟩ | ⟨e, q⟩
    · refine⟨List.mem_append_right _ (List.mem_singleton.2 rfl),?_⟩
      show lv (assignV v (ms.getD 0 0) (some d)) (ms.getD 0 0)=0
      rw[hl0,hu hl];rfl
    · obtain⟨g1,g2⟩:=k.unit d ms t q hl
      refine⟨List.mem_append_left _ g1,?_⟩
      show lv (assignV v (L.getD 0 0) (some c)) (ms.getD 0 0)=0
      rw[hlev (.inl g1)];exact g2
  · have ht : v.limits[j]? = some t := ht
    have hb':=k.ct.below t (List.mem_of_getElem? ht)
    have etk:(v.trail++[L.getD 0 0]).take t.toNat=v.trail.take t.toNat:=List.take_append_of_le_length (by omega)
    rcases clPut_get hd with⟨rfl,rfl,rfl⟩ | ⟨e,q⟩
    · exact(hi7 j t ht).take etk
    · exact(k.i7 j t ht d ms b' q).take etk
  · rcases clPut_get hd with ⟨rfl, rfl, rfl⟩ | ⟨e, q⟩
    · exact himp σ hσ
    · exact k.imp σ (hF.sub σ hσ) d ms t q
  · rcases hF.cov f hf with q | q | q
    · rcases k.cover f q with z | ⟨d, ms, t, z1, z2⟩
      · exact .inl z
      · refine .inr ⟨d,ms,t,?_,z2⟩
        show clPut _ _ _ d=_
        unfold clPut
        rw[if_neg (fun e=>by rw[e,hc]at z1;cases z1)]
        exact z1
    · exact .inl q
    · exact .inr ⟨c,L,b,clPut_same _ _ _,q⟩
theorem CI.new {n h : Nat} {F F' : List (List Int)} {v : Sv} (k : CI n F h v) {c : Nat} (hc : v.cl c = none) {L : List Int} (hL : ClsOk n L) (hne : L ≠ []) (hnd : (L.map Int.natAbs).Nodup) {b : Bool × Bool} (hb : b.2 = false) (hF : More F F' L)
    (hok:2≤L.length→Wok v h L) (hu:L.length=1→L.getD 0 0∈v.trail∧lv v (L.getD 0 0)=0) (hi7:∀ (j:Nat) (t:Int),v.limits[j]? = some t→I7 v.trail t.toNat L) (himp:∀σ,Models σ F'→∃y∈L,Sat σ y):
    CI n F' h (withC v c L b):=by
  have hi:=k.ct.inv
  obtain⟨hw1,hw2⟩:=hi.withC hc hL b
  have hct0:CT n { v with cl:=clPut v.cl c (L,b) }:=k.ct.put hc hL hne hnd hb hw2
  have hct1:CT n (withC v c L b):=hct0.of hw1 rfl rfl rfl rfl rfl
  have hcw:CW (withC v c L b) h []:=by
    refine k.cw.put (n:=n) (fun j d hd q=>?_) hc hL hne hnd hi.fit.siz.w b hok
    obtain⟨ls,t,e⟩:=hi.watched (k:=j) hd
    rw[e]at q;cases q
  refine⟨hct1,hcw,k.hb,k.lh,fun d ms t hd hl=>?_,fun j t ht d ms b' hd=>?_,fun σ hσ d ms t hd=>?_,fun f hf=>?_,k.phase⟩
  · rcases clPut_get hd with ⟨rfl, rfl, rfl⟩ | ⟨e, q⟩
    · exact hu hl
    · exact k.unit d ms t q hl
  · rcases clPut_get hd with ⟨rfl, rfl, rfl⟩ | ⟨e, q⟩
    · exact hi7 j t ht
    · exact k.i7 j t ht d ms b' q
  · rcases clPut_get hd with ⟨rfl, rfl, rfl⟩ | ⟨e, q⟩
    · exact himp σ hσ
    · exact k.imp σ (hF.sub σ hσ) d ms t q
  · rcases hF.cov f hf with q | q | q
    · rcases k.cover f q with z | ⟨d, ms, t, z1, z2⟩
      · exact .inl z
      · refine .inr ⟨d,ms,t,?_,z2⟩
        show clPut _ _ _ d=_
        unfold clPut
        rw[if_neg (fun e=>by rw[e,hc]at z1;cases z1)]
        exact z1
    · exact .inl q
    · exact .inr ⟨c,L,b,clPut_same _ _ _,q⟩
def dig(ls:List Int)(k:Nat):Nat:=if (k:Int)∈ls then 1 else if -(k:Int)∈ls then 2 else 0
theorem dig_le(ls:List Int)(k:Nat):dig ls k≤2:=by
  unfold dig
  split
  · omega
  · split<;>omega
def code(ls:List Int):Nat→Nat
  | 0=>0
  | k+1=>code ls k+3 ^ k * dig ls (k+1)
theorem code_lt(ls:List Int):∀k,code ls k<3 ^ k
  | 0=>by simp[code]
  | k+1=>by
    have h:=code_lt ls k
    have e:3 ^ (k+1)=3 ^ k * 3:=Nat.pow_succ ..
    unfold code
    have hd:=dig_le ls (k+1)
    rw[e]
    generalize 3 ^ k=P at *
    have:dig ls (k+1)=0∨dig ls (k+1)=1∨dig ls (k+1)=2:=by omega
    rcases this with q | q | q<;>rw[q]<;>omega
theorem code_inj{ls ls':List Int}:∀ {k:Nat},code ls k=code ls' k→∀j,1≤j→j≤k→dig ls j=dig ls' j
  | 0,_,j,h1,h2=>by omega
  | k+1,h,j,h1,h2=>by
    have a1:=code_lt ls k
    have a2:=code_lt ls' k
    have d1:=dig_le ls (k+1)
    have d2:=dig_le ls' (k+1)
    unfold code at h
    have key:code ls k=code ls' k∧dig ls (k+1)=dig ls' (k+1):=by
      generalize 3 ^ k=P at *
      have e1:dig ls (k+1)=0∨dig ls (k+1)=1∨dig ls (k+1)=2:=by omega
      have e2:dig ls' (k+1)=0∨dig ls' (k+1)=1∨dig ls' (k+1)=2:=by omega
      rcases e1 with q | q | q<;>rcases e2 with r | r | r<;>rw[q,r]at h<;>rw[q,r]<;>omega
    by_cases e:j=k+1
    · rw[e];exact key.2
    · exact code_inj key.1 j h1 (by omega)
theorem not_both{ls:List Int}(hnd:(ls.map Int.natAbs).Nodup){y:Int}(hy0:y≠0)(h1:y∈ls)(h2:-y∈ls):False:=by
  obtain⟨i,hi,e1⟩:=List.getElem_of_mem h1
  obtain⟨j,hj,e2⟩:=List.getElem_of_mem h2
  have k1:ls.getD i 0=y:=by rw[List.getD_eq_getElem?_getD,List.getElem?_eq_getElem hi,e1];rfl
  have k2:ls.getD j 0=-y:=by rw[List.getD_eq_getElem?_getD,List.getElem?_eq_getElem hj,e2];rfl
  have:=nodup_abs hnd hi hj (by rw[k1,k2,Int.natAbs_neg])
  subst this
  rw[k1]at k2
  omega
theorem code_mem{n:Nat}{ls ls':List Int}(h:code ls n=code ls' n)(hv:∀y∈ls,VL n y)(hnd:(ls.map Int.natAbs).Nodup){y:Int}(hy:y∈ls):y∈ls':=by
  obtain⟨h0,hn⟩:=hv y hy
  have hd:=code_inj h y.natAbs (by omega) hn
  have neg:∀z,z∈ls→-z ∉ ls:=fun z hz q=>not_both hnd (hv z hz).1 hz q
  unfold dig at hd
  rcases Int.lt_or_gt_of_ne h0 with q | q
  · have e : -(y.natAbs : Int) = y := by omega
    have e':(y.natAbs:Int)=-y:=by omega
    rw[e,e']at hd
    rw[if_neg (neg y hy),if_pos hy]at hd
    split at hd
    · cases hd
    · split at hd
      · assumption
      · cases hd
  · have e:(y.natAbs:Int)=y:=by omega
    rw[e,if_pos hy]at hd
    split at hd
    · assumption
    · split at hd<;>cases hd
theorem code_pos {n : Nat} {ls : List Int} {y : Int} (hy : y ∈ ls) (hv : VL n y) : 1 ≤ code ls n := by
  rcases Nat.eq_zero_or_pos (code ls n)with h | h
  · have e:code ls n=code [] n:=by
      rw[h]
      have:∀k,code [] k=0:=fun k=>by
        induction k with
        | zero=>rfl
        | succ k ih=>unfold code dig;rw[ih];simp
      exact(this n).symm
    have hd:=code_inj e y.natAbs (by have:=hv.1;omega) hv.2
    unfold dig at hd
    rw[if_neg (show ¬ ((y.natAbs:Int)∈([]:List Int)) by simp),if_neg (show ¬ (-(y.natAbs:Int)∈([]:List Int)) by simp)]at hd
    split at hd
    · cases hd
    · split at hd
      · cases hd
      · rename_i q1 q2
        rcases Int.lt_or_gt_of_ne hv.1 with z | z
        · exact absurd hy (by rw[show y=-(y.natAbs:Int) by omega];exact q2)
        · exact absurd hy (by rw[show y=(y.natAbs:Int) by omega];exact q1)
  · exact h
theorem code_congr{ls ls':List Int}(h:∀x,x∈ls↔x∈ls'):∀k,code ls k=code ls' k
  | 0=>rfl
  | k+1=>by
    unfold code dig
    rw[code_congr h k]
    simp only[h]
structure Cod(n A:Nat)(v:Sv)(C:List Nat):Prop where
  nd:C.Nodup
  mem:∀k∈C,1≤k∧k<3 ^ n∧∃c ls b,v.cl c=some (ls,b)∧code ls n=k
  many:v.many=(C.length:Int)
  lrn:v.learned.length≤C.length
  trc:v.trace.length≤C.length
  tot:Tot v.watches≤2 * (A+C.length)
  room:v.room=2000
theorem Cod.len{n A:Nat}{v:Sv}{C:List Nat}(h:Cod n A v C):C.length≤3 ^ n - 1:=nodup_len h.nd fun k hk=>by
  obtain⟨h1,h2,_⟩:=h.mem k hk
  omega
theorem learnL_perm(v:Sv)(r:Lst):(learnL v r).Perm (r.hd::r.lits):=by
  unfold learnL
  cases h:firstI (atLev v r.lev) r.lits 0 with
  | none=>exact List.Perm.refl _
  | some i =>
    have:=(firstI_lt h).2
    exact swapL_perm (by simp;omega) (by simp;omega)
theorem learnL_0(v:Sv)(r:Lst):(learnL v r).getD 0 0=r.hd:=by
  unfold learnL
  cases h:firstI (atLev v r.lev) r.lits 0 with
  | none=>rfl
  | some i=>exact swapL_ne (by omega) (by omega)
theorem firstI_at{f:Int→Bool}:∀ {L:List Int}{k i:Nat},firstI f L k=some i→∃y,L[i - k]? = some y∧f y=true
  | [],k,i,h=>by cases h
  | x::L,k,i,h=>by
    unfold firstI at h
    split at h
    · injection h with h
      subst h
      exact⟨x,by rw[Nat.sub_self];rfl,by assumption⟩
    · obtain⟨y,h1,h2⟩:=firstI_at h
      have:=(firstI_lt h).1
      exact⟨y,by rw[show i - k=(i - (k+1))+1 by omega];exact h1,h2⟩
theorem learnL_1 {v : Sv} {r : Lst} (h : ∃ q ∈ r.lits, lv v q = r.lev) : lv v ((learnL v r).getD 1 0) = r.lev ∧ (learnL v r).getD 1 0 ∈ r.lits := by
  have hs:(firstI (atLev v r.lev) r.lits 0).isSome=true:=by
    rw[firstI_some]
    obtain⟨q,h1,h2⟩:=h
    exact⟨q,h1,decide_eq_true h2⟩
  unfold learnL
  cases hf:firstI (atLev v r.lev) r.lits 0 with
  | none=>rw[hf]at hs;cases hs
  | some i =>
    obtain⟨y,h1,h2⟩:=firstI_at hf
    have hl:=(firstI_lt hf).2
    have e:(swapL (r.hd::r.lits) 1 (i+1)).getD 1 0=y:=by
      by_cases hi:i=0
      · subst hi
        show(swapL (r.hd::r.lits) 1 1).getD 1 0=y
        rw[swapL_j (by simp;omega)]
        exact getD_of (l:=r.hd::r.lits) (k:=1) h1
      · rw[swapL_i (by simp;omega) (by omega)]
        exact getD_of (l:=r.hd::r.lits) (k:=i+1) (by rw[List.getElem?_cons_succ];exact h1)
    dsimp only
    rw[e]
    exact⟨of_decide_eq_true h2,List.mem_of_getElem? h1⟩
structure Lits(n:Nat)(v:Sv)(L:List Int)(r:Lst):Prop where
  ok:ClsOk n L
  ne:L≠[]
  nd:(L.map Int.natAbs).Nodup
  hd:L.getD 0 0=r.hd
  mem:∀y,y∈L↔y=r.hd∨y∈r.lits
  len:L.length=r.lits.length+1
theorem Learned.list{n:Nat}{v:Sv}(h:CT n v){r:Lst}(hL:Learned v r):Lits n v (learnL v r) r:=by
  obtain⟨i,u,hu,hlu,hhd⟩:=hL.uip
  have hp:=learnL_perm v r
  have hVu:=h.inv.fit.lits u (List.mem_of_getElem? hu)
  have hV:∀y∈r.hd::r.lits,VL n y:=fun y hy=>by
    rcases List.mem_cons.1 hy with e | e
    · rw[e,hhd];exact⟨by have:=hVu.1;omega,by rw[Int.natAbs_neg];exact hVu.2⟩
    · have:=h.inv.fit.lits _ (hL.lits y e).1
      exact⟨by have:=this.1;omega,by have:=this.2;rw[Int.natAbs_neg]at this;exact this⟩
  have hnd:((r.hd::r.lits).map Int.natAbs).Nodup:=by
    rw[List.map_cons,List.nodup_cons]
    refine⟨fun q=>?_,hL.nd⟩
    obtain⟨y,hy,e⟩:=List.mem_map.1 q
    obtain⟨g1,g2,g3⟩:=hL.lits y hy
    have:lv v y=lv v u:=by
      unfold lv
      rw[e,hhd,Int.natAbs_neg]
    omega
  have hlen:(r.hd::r.lits).length≤n:=by
    have:=nodup_len hnd (n:=n) fun k hk=>by
      obtain⟨y,hy,rfl⟩:=List.mem_map.1 hk
      have:=hV y hy
      exact⟨by have:=this.1;omega,this.2⟩
    simpa using this
  have hsm:=h.inv.fit.siz.small
  have hle:=hp.length_eq
  refine⟨⟨fun y hy=>hV y (hp.mem_iff.1 hy),by omega⟩,fun e=>by rw[e]at hle;simp at hle,((hp.map _).nodup_iff).2 hnd,learnL_0 v r,fun y=>by rw[hp.mem_iff,List.mem_cons],by rw[hle];rfl⟩
theorem Learned.fresh{n h:Nat}{F:List (List Int)}{v:Sv}(k:CI n F h v)(hlim:v.limits≠[]){r:Lst}(hL:Learned v r){c:Nat}{ls:List Int}{b:Bool×Bool}(hc:v.cl c=some (ls,b)):code ls n≠code (learnL v r) n:=by
  intro he
  have hl:=hL.list k.ct
  obtain⟨c1,c2,c3,c4⟩:=k.ct.cls c ls b hc
  have m1:∀y∈ls,y∈learnL v r:=fun y hy=>code_mem he c1.1 c3 hy
  have hpos:0<v.limits.length:=List.length_pos_iff.2 hlim
  have ht:=getD_get (d:=(0:Int)) (show v.limits.length - 1<v.limits.length by omega)
  generalize v.limits.getD (v.limits.length - 1) 0=t at ht
  have ht0:=k.ct.lim t (List.mem_of_getElem? ht)
  obtain⟨i,u,hu,hlu,hhd⟩:=hL.uip
  have hneg:∀y∈learnL v r,-y∈v.trail:=fun y hy=>by
    rcases(hl.mem y).1 hy with e | e
    · rw[e,hhd,Int.neg_neg];exact List.mem_of_getElem? hu
    · exact(hL.lits y e).1
  have hlow:∀y∈r.lits,-y∈v.trail.take t.toNat:=fun y hy=>by
    obtain⟨g1,g2,g3⟩:=hL.lits y hy
    obtain⟨j,hj⟩:=mem_at.1 g1
    obtain⟨q1,q2,q3⟩:=k.ct.last ht hj
    rw[lv_neg]at q1
    refine mem_tk.2 ⟨j,?_,hj⟩
    rcases Nat.lt_or_ge j t.toNat with z | z
    · exact z
    · have:=q1.2 z;omega
  rcases k.i7 _ t ht c ls b hc with⟨y,hy,hm⟩ | ⟨y,hy,z,hz,hne,h1,h2⟩
  · exact k.ct.inv.two (List.mem_of_mem_take hm) (hneg y (m1 y hy))
  · have e1 : y = r.hd := ((hl.mem y).1 (m1 y hy)).resolve_right fun q => h1 (hlow y q)
    have e2:z=r.hd:=((hl.mem z).1 (m1 z hz)).resolve_right fun q=>h2 (hlow z q)
    exact hne (e1.trans e2.symm)
theorem keep_ci {n h : Nat} {F : List (List Int)} {w : Sv} (k : CI n F h w) (hlim : w.limits ≠ []) {r : Lst} (hL : Learned w r) {c : Nat} (hc : w.cl c = none) :
    CI n F (keepV (backV w r.lev.toNat) c (learnL w r)).head.toNat (keepV (backV w r.lev.toNat) c (learnL w r))∧0≤(keepV (backV w r.lev.toNat) c (learnL w r)).head∧(keepV (backV w r.lev.toNat) c (learnL w r)).head≤((keepV (backV w r.lev.toNat) c (learnL w r)).trail.length:Int) ∧
      0≤r.lev∧r.lev<(w.limits.length:Int):=by
  have hl:=hL.list k.ct
  obtain⟨i,u,hu,hlu,hhd⟩:=hL.uip
  have hlev:0≤r.lev∧r.lev<(w.limits.length:Int):=by
    have hpos:0<w.limits.length:=List.length_pos_iff.2 hlim
    rcases hL.lev.2 with⟨_,e⟩ | ⟨q,hq,e⟩
    · omega
    · have:=hL.lits q hq;omega
  have ht:=getD_get (d:=(0:Int)) (show r.lev.toNat<w.limits.length by omega)
  generalize w.limits.getD r.lev.toNat 0=t at ht
  obtain⟨kb,b2,b3,b4⟩:=k.back ht
  obtain⟨ph,va,wh,tr,li,hd,e,_⟩:=backV_eq w r.lev.toNat
  have ecl:(backV w r.lev.toNat).cl=w.cl:=by rw[e]
  have elv:(backV w r.lev.toNat).level=w.level:=by rw[e]
  have ht0:=k.ct.lim t (List.mem_of_getElem? ht)
  have htl:=k.ct.below t (List.mem_of_getElem? ht)
  have hlt:(w.trail.take t.toNat).length=t.toNat:=by rw[List.length_take];omega
  have low:∀ {x:Int},x∈w.trail→lv w x≤r.lev→x∈w.trail.take t.toNat:=by
    intro x hx hx2
    obtain⟨j,hj⟩:=mem_at.1 hx
    have hlj:lv w x=(lvl w.limits j:Int):=k.ct.lev j x hj
    refine mem_tk.2 ⟨j,?_,hj⟩
    rcases Nat.lt_or_ge j t.toNat with q | q
    · exact q
    · have:=lvl_ge k.ct.sorted ht (i:=j) (by omega)
      omega
  have hui:t.toNat≤i:=by
    rcases Nat.lt_or_ge i t.toNat with q | q
    · have := (lvl_lt k.ct.sorted ht (i := i) (by omega)).2
      have hli:lv w u=(lvl w.limits i:Int):=k.ct.lev i u hu
      omega
    · exact q
  have hunot:u ∉ w.trail.take t.toNat:=fun q=>by
    obtain⟨j,hj,ej⟩:=mem_tk.1 q
    have:=k.ct.inv.one ej hu rfl
    omega
  have hunot':-u ∉ w.trail.take t.toNat:=fun q=>k.ct.inv.two (List.mem_of_getElem? hu) (List.mem_of_mem_take q)
  have hVu:=k.ct.inv.fit.lits u (List.mem_of_getElem? hu)
  have hopen:(backV w r.lev.toNat).value.getD ((learnL w r).getD 0 0).natAbs 0=0:=by
    rw[hl.hd,hhd]
    refine kb.ct.inv.zero (by have:=hVu.1;omega) ?_ ?_
    · rw[b2];exact hunot'
    · rw[b2,Int.neg_neg];exact hunot
  have hfol:=kb.follow (F':=F) (c:=c) (by rw[ecl];exact hc) hl.ok hl.ne hl.nd (b:=(true,false)) rfl ⟨fun σ hσ=>hσ,fun f hf=>.inl hf⟩ hopen (fun y hy hne=>by
      rw[b2]
      rcases(hl.mem y).1 hy with q | q
      · rw[hl.hd]at hne;exact absurd q hne
      · refine low (hL.lits y q).1 ?_
        rw[lv_neg]
        exact hL.lev.1 y q) (fun h2=>by
      have hne:r.lits≠[]:=fun q=>by have:=hl.len;rw[q]at this;simp at this;omega
      have hex:∃q∈r.lits,lv w q=r.lev:=hL.lev.2.resolve_left fun q=>hne q.1
      have:=(learnL_1 hex).1
      show(backV w r.lev.toNat).level.getD _ 0=_
      rw[elv,b3,List.length_take]
      have e:w.level.getD ((learnL w r).getD 1 0).natAbs 0=r.lev:=this
      rw[e]
      omega) (fun h1=>by
      have hnil:r.lits=[]:=by
        have:=hl.len
        exact List.length_eq_zero_iff.1 (by omega)
      have hz:r.lev=0:=by
        rcases hL.lev.2 with⟨_,q⟩ | ⟨q,hq,_⟩
        · exact q
        · rw[hnil]at hq;cases hq
      rw[b3,hz];rfl) (fun j s hs=>by
      rw[b3]at hs
      have hil:=lt_of_get hs
      have hj:j<r.lev.toNat:=by rw[List.length_take]at hil;omega
      have hs':w.limits[j]? = some s:=by rw[List.getElem?_take_of_lt hj]at hs;exact hs
      have hst:=(sorted_take k.ct.sorted ht).1 s (mem_tk.2 ⟨j,hj,hs'⟩)
      have hs0:=k.ct.lim s (List.mem_of_getElem? hs')
      have hne:r.lits≠[]:=fun q=>by
        rcases hL.lev.2 with⟨_,z⟩ | ⟨y,hy,_⟩
        · omega
        · rw[q]at hy;cases hy
      have hex:∃q∈r.lits,lv w q=r.lev:=hL.lev.2.resolve_left fun q=>hne q.1
      obtain⟨q1,q2⟩:=learnL_1 hex
      obtain⟨g1,g2,g3⟩:=hL.lits _ q2
      refine .inr ⟨r.hd,(hl.mem _).2 (.inl rfl),(learnL w r).getD 1 0,(hl.mem _).2 (.inr q2),fun z=>?_,?_,?_⟩
      · rw[← z,hhd,lv_neg]at g3;omega
      · rw[b2,List.take_take,Nat.min_eq_left (by omega),hhd,Int.neg_neg]
        exact fun q=>hunot (mem_take_mono (by omega) q)
      · rw[b2,List.take_take,Nat.min_eq_left (by omega)]
        intro q
        obtain⟨p,hp,ep⟩:=mem_tk.1 q
        have hlp:lv w (-((learnL w r).getD 1 0))=(lvl w.limits p:Int):=k.ct.lev p _ ep
        rw[lv_neg,q1]at hlp
        have:=(lvl_lt k.ct.sorted hs' (i:=p) (by omega)).2
        omega) (fun σ hσ=>by
      rcases hL.imp σ (k.imp σ hσ)with q | ⟨y,hy,hs⟩
      · exact⟨r.hd,(hl.mem _).2 (.inl rfl),q⟩
      · exact⟨y,(hl.mem y).2 (.inr hy),hs⟩)
  have hhead:(keepV (backV w r.lev.toNat) c (learnL w r)).head=t:=by
    unfold keepV
    split<;>exact b4
  have htrail:(keepV (backV w r.lev.toNat) c (learnL w r)).trail=w.trail.take t.toNat++[(learnL w r).getD 0 0]:=by
    rw[← b2]
    unfold keepV
    split<;>rfl
  rw[hhead]
  refine⟨?_,ht0,by rw[htrail,List.length_append,hlt];omega,hlev.1,hlev.2⟩
  have hw:(keepV (backV w r.lev.toNat) c (learnL w r)).watches=putW (backV w r.lev.toNat).watches c (learnL w r):=by
    unfold keepV putW
    split<;>rfl
  have hcl':(keepV (backV w r.lev.toNat) c (learnL w r)).cl=clPut (backV w r.lev.toNat).cl c (learnL w r,(true,false)):=by
    unfold keepV
    split<;>rfl
  have same:∀ {v' v:Sv},Inv1 n v→v'.trail=v.trail→v'.limits=v.limits→v'.value=v.value→v'.level=v.level→v'.why=v.why→v'.heat.length=v.heat.length→v'.phase=v.phase→v'.watches=v.watches→v'.cl=v.cl→Inv1 n v':=by
    intro v' v hi e1 e2 e3 e4 e5 e6 e7 e8 e9
    obtain⟨⟨hz,hv,hli,hlm⟩,g2,g3,g4,g5⟩:=hi
    exact⟨⟨⟨hz.small,by rw[e8];exact hz.w,by rw[e3];exact hz.value,by rw[e4];exact hz.level,by rw[e5];exact hz.why,e6.trans hz.heat,by rw[e7];exact hz.phase,by rw[e1];exact hz.trail,by rw[e2];exact hz.limits⟩,by rw[e3];exact hv,by rw[e1];exact hli,by rw[e1,e2];exact hlm⟩,by rw[e1];exact g2,by rw[e1,e3];exact g3,by rw[e1,e3];exact g4,by rw[e8,e9];exact g5⟩
  refine hfol.of (same hfol.ct.inv ?_ ?_ ?_ ?_ ?_ ?_ ?_ hw hcl') ?_ ?_ ?_ ?_ hcl' hw ?_
  all_goals (unfold keepV;split<;>rfl)
theorem downC_perm(c:Int→Int→Int)(x:Int):∀q,(downC c x q).Perm (x::q)
  | []=>List.Perm.refl _
  | y::q=>by
    unfold downC
    split
    · exact((downC_perm c x q).cons y).trans (List.Perm.swap x y q)
    · exact List.Perm.refl _
theorem foldC_perm(c:Int→Int→Int):∀ (R q:List Int),(R.foldl (fun q x=>downC c x q) q).Perm (q++R)
  | [],q=>by simp
  | y::R,q=>by
    rw[List.foldl_cons]
    refine(foldC_perm c R (downC c y q)).trans ?_
    refine((downC_perm c y q).append_right R).trans ?_
    rw[List.cons_append]
    exact(List.perm_middle (a:=y) (l₁:=q) (l₂:=R)).symm
theorem stabV_perm(c:Int→Int→Int)(L:List Int):(stabV c L).Perm L:=by
  unfold stabV
  refine(List.reverse_perm _).trans ?_
  have:=foldC_perm c L []
  rwa[List.nil_append]at this
theorem downC_asc(g:Int→Int)(x:Int):∀ {q:List Int},q.Pairwise (fun a b=>g a≤g b)→(downC (fun a b=>g b - g a) x q).Pairwise fun a b=>g a≤g b
  | [],_=>by simp[downC]
  | y::q,h=>by
    rw[List.pairwise_cons]at h
    unfold downC
    split
    · rename_i hlt
      rw[List.pairwise_cons]
      refine⟨fun z hz=>?_,downC_asc g x h.2⟩
      rcases(downC_mem _ x z q).1 hz with e | e
      · rw[e];omega
      · exact h.1 z e
    · rename_i hge
      rw[List.pairwise_cons,List.pairwise_cons]
      refine⟨fun z hz=>?_,h⟩
      rcases List.mem_cons.1 hz with e | e
      · rw[e];omega
      · have:=h.1 z e;omega
theorem foldC_asc(g:Int→Int):∀ (R:List Int){q:List Int},q.Pairwise (fun a b=>g a≤g b)→(R.foldl (fun q x=>downC (fun a b=>g b - g a) x q) q).Pairwise fun a b=>g a≤g b
  | [],_,h=>h
  | y::R,q,h=>by rw[List.foldl_cons];exact foldC_asc g R (downC_asc g y h)
theorem stabV_desc(g:Int→Int)(L:List Int):(stabV (fun a b=>g b - g a) L).Pairwise fun a b=>g b≤g a:=by
  unfold stabV
  rw[List.pairwise_reverse]
  exact foldC_asc g L List.Pairwise.nil
theorem own_facts(L:List Int):(ownV L).Nodup∧∀z,z∈ownV L↔z∈L:=by
  unfold ownV
  have hs:(sortV L).Pairwise (·≤·):=by
    unfold sortV
    rw[List.pairwise_reverse]
    have:=(foldDown L (q:=[]) List.Pairwise.nil).1
    exact this.imp fun h=>h
  cases h:sortV L with
  | nil =>
    have hn:L=[]:=by
      cases L with
      | nil=>rfl
      | cons x L=>have:=(sortV_mem (x::L) x).2 (List.mem_cons_self ..);rw[h]at this;cases this
    rw[hn]
    exact⟨List.Pairwise.nil,fun z=>Iff.rfl⟩
  | cons p l =>
    rw[h]at hs
    obtain⟨r1,r2⟩:=dd_rise l p hs
    refine⟨?_,fun z=>?_⟩
    · show(p::dd p l).Nodup
      exact List.Pairwise.imp (fun h=>by omega) r1
    · show z∈p::dd p l↔z∈L
      rw[r2 z,← h,sortV_mem]
theorem putC_with(v:Sv)(c:Nat)(O:List Int):putC v c O=withC v c O (false,false):=by
  unfold putC withC putW
  split<;>rfl
theorem putW_tot(W:List (List Nat))(c:Nat)(L:List Int):Tot (putW W c L)≤Tot W+2:=by
  unfold putW
  split
  · have h1 := Tot.put W (place (L.getD 0 0)) c
    have h2:=Tot.put (wPut W (place (L.getD 0 0)) c) (place (L.getD 1 0)) c
    omega
  · omega
theorem failV_no{v:Sv}(h:v.broken=false):failV v={ v with broken:=true,trace:=v.trace++[(false,[])] }:=by
  unfold failV
  rw[if_neg (by rw[h];decide)]
structure Added(v v':Sv):Prop where
  limits:v'.limits=v.limits
  head:v'.head=v.head
  many:v'.many=v.many
  learned:v'.learned=v.learned
  room:v'.room=v.room
  tot:Tot v'.watches≤Tot v.watches+2
  cl:∀c l,v.cl c=some l→v'.cl c=some l
theorem more_snoc(F:List (List Int))(f L:List Int)(h:(∃y∈f,-y∈f)∨∀y∈L,y∈f):More F (F++[f]) L:=
  ⟨fun σ hσ g hg=>hσ g (List.mem_append_left _ hg),fun g hg=>by
    rcases List.mem_append.1 hg with q | q
    · exact .inl q
    · rw[List.mem_singleton.1 q];exact .inr h⟩
theorem add_ci {n h : Nat} {F : List (List Int)} {v : Sv} (k : CI n F h v) (hlim : v.limits = []) (hbr : v.broken = false) {f : List Int} (hf : ∀ q ∈ f, VL n q) (hlen : f.length ≤ 12) {v' : Sv} (hr : AddR v f v') :
    (v'.broken=false∧CI n (F++[f]) h v'∧Added v v'∧v'.trace=v.trace∧v.trail.length≤v'.trail.length) ∨
    (v'.broken=true∧Inv1 n v'∧Added v v'∧v'.trace.length=v.trace.length+1∧v'.trail=v.trail∧∀σ,¬ Models σ (F++[f])):=by
  have hi:=k.ct.inv
  obtain⟨ho1,ho2⟩:=own_facts f
  have hl0:∀ {x:Int},x∈v.trail→lv v x=0:=fun {x} hx=>by
    obtain⟨i,e⟩:=mem_at.1 hx
    have:=k.ct.lev i x e
    unfold lv
    rw[this,hlim];rfl
  have same:∀ {w:Sv},Inv1 n w→Inv1 n { w with broken:=true,trace:=w.trace++[(false,[])] }:=by
    intro w hw
    obtain⟨⟨hz,hv,hli,hlm⟩,g2,g3,g4,g5⟩:=hw
    exact⟨⟨⟨hz.small,hz.w,hz.value,hz.level,hz.why,hz.heat,hz.phase,hz.trail,hz.limits⟩,hv,hli,hlm⟩,g2,g3,g4,g5⟩
  have refl:Added v v:=⟨rfl,rfl,rfl,rfl,rfl,by omega,fun _ _ q=>q⟩
  cases hr with
  | none ht =>
    rcases ht with ht | ht
    · refine .inl ⟨hbr,?_,refl,rfl,Nat.le_refl _⟩
      obtain⟨y,h1,h2⟩:=tautV_iff.1 ht
      refine { ct:=k.ct,cw:=k.cw,hb:=k.hb,lh:=k.lh,unit:=k.unit,i7:=k.i7,imp:=fun σ hσ=>k.imp σ fun g hg=>hσ g (List.mem_append_left _ hg),cover:=fun g hg=>?_,phase:=k.phase }
      rcases List.mem_append.1 hg with q | q
      · exact k.cover g q
      · rw[List.mem_singleton.1 q]
        exact .inl ⟨y,(ho2 y).1 h1,(ho2 _).1 h2⟩
    · rw[hbr]at ht;cases ht
  | nil ht hb he =>
    right
    rw[failV_no hbr]
    refine⟨rfl,same hi,⟨rfl,rfl,rfl,rfl,rfl,by show Tot v.watches≤_;omega,fun _ _ q=>q⟩,by show(v.trace++[_]).length=_;rw[List.length_append];rfl,rfl,fun σ hσ=>?_⟩
    obtain⟨y,h1,_⟩:=hσ f (List.mem_append_right _ (List.mem_singleton.2 rfl))
    have:=(ho2 y).2 h1
    rw[he]at this
    cases this
  | @put c ht hb he hc =>
    have hp:(orderV v f).Perm (ownV f):=stabV_perm _ _
    have hm:∀z,z∈orderV v f↔z∈f:=fun z=>by rw[hp.mem_iff];exact ho2 z
    have hdesc:(orderV v f).Pairwise fun a b=>isV v.value b≤isV v.value a:=stabV_desc (isV v.value) (ownV f)
    have hOne:orderV v f≠[]:=fun e=>he (by have:=hp.length_eq;rw[e]at this;exact List.length_eq_zero_iff.1 this.symm)
    have hOl:(orderV v f).length≤12:=by rw[hp.length_eq];have:=ownV_len f;omega
    have hOk:ClsOk n (orderV v f):=⟨fun q hq=>hf q ((hm q).1 hq),by omega⟩
    have hOnd:((orderV v f).map Int.natAbs).Nodup:=by
      have hnd:(orderV v f).Nodup:=(hp.nodup_iff).2 ho1
      rw[List.Nodup,List.pairwise_map]
      refine List.Pairwise.imp_of_mem ?_ hnd
      intro a b ha hb' hab e
      rcases neg_abs e with q | q
      · exact hab q
      · have:tautV (ownV f)=true:=tautV_iff.2 ⟨b,hp.mem_iff.1 hb',by rw[← q];exact hp.mem_iff.1 ha⟩
        rw[ht]at this;cases this
    generalize hO:orderV v f=O at *
    have hpos:0<O.length:=List.length_pos_iff.2 hOne
    have hV0:=hOk.get hpos
    have m0:O.getD 0 0∈O:=List.mem_of_getElem? (getD_get hpos)
    have hfirst:∀y∈O,isV v.value y≤isV v.value (O.getD 0 0):=fun y hy=>by
      cases hOc:O with
      | nil=>exact absurd hOc hOne
      | cons x l =>
        rw[hOc]at hdesc hy
        rcases List.mem_cons.1 hy with e | e
        · rw[e];exact Int.le_refl _
        · exact(List.pairwise_cons.1 hdesc).1 y e
    have hsecond:∀y∈O,y≠O.getD 0 0→2≤O.length∧isV v.value y≤isV v.value (O.getD 1 0):=fun y hy hne=>by
      cases hOc:O with
      | nil=>exact absurd hOc hOne
      | cons x l =>
        rw[hOc]at hdesc hy hne
        have hy':y∈l:=(List.mem_cons.1 hy).resolve_left hne
        cases hl:l with
        | nil=>rw[hl]at hy';cases hy'
        | cons z l' =>
          rw[hl]at hy' hdesc
          refine⟨by simp,?_⟩
          have h2:=(List.pairwise_cons.1 (List.pairwise_cons.1 hdesc).2).1
          rcases List.mem_cons.1 hy' with e | e
          · rw[e];exact Int.le_refl _
          · exact h2 y e
    have himp:∀σ,Models σ (F++[f])→∃y∈O,Sat σ y:=fun σ hσ=>by
      obtain⟨y,h1,h2⟩:=hσ f (List.mem_append_right _ (List.mem_singleton.2 rfl))
      exact⟨y,(hm y).2 h1,h2⟩
    have hmore:More F (F++[f]) O:=more_snoc F f O (.inr fun y hy=>(hm y).1 hy)
    have hi7:∀ (j:Nat) (t:Int),v.limits[j]? = some t→I7 v.trail t.toNat O:=fun j t hj=>by rw[hlim]at hj;simp at hj
    have hfr:∀d l,v.cl d=some l→(withC v c O (false,false)).cl d=some l:=fun d l hd=>by
      show clPut _ _ _ d=_
      unfold clPut
      rw[if_neg fun e=>by rw[e,hc]at hd;cases hd]
      exact hd
    have htot:Tot (withC v c O (false,false)).watches≤Tot v.watches+2:=putW_tot _ _ _
    unfold addC
    rw[putC_with]
    by_cases hneg:isV v.value (O.getD 0 0)<0
    · rw [if_pos hneg]
      right
      have hbw:(withC v c O (false,false)).broken=false:=hbr
      rw[failV_no hbw]
      refine⟨rfl,same (hi.withC hc hOk (false,false)).1,⟨rfl,rfl,rfl,rfl,rfl,htot,hfr⟩,by show(v.trace++[_]).length=_;rw[List.length_append];rfl,rfl,fun σ hσ=>?_⟩
      obtain⟨y,hy,hs⟩:=himp σ hσ
      have hy0:=(hOk.1 y hy).1
      have hny:-y∈v.trail:=(hi.neg hy0).1 (by have:=hfirst y hy;omega)
      obtain⟨i,e⟩:=mem_at.1 hny
      exact hs.neg (k.ct.zero (k.imp σ (hmore.sub σ hσ)) i (-y) e (hl0 hny))
    · rw[if_neg hneg]
      left
      by_cases hcond:isV v.value (O.getD 0 0)=0∧(O.length=1∨isV v.value (O.getD 1 0)<0)
      · rw[if_pos hcond]
        have hothers:∀y∈O,y≠O.getD 0 0→-y∈v.trail:=fun y hy hne=>by
          obtain⟨g1,g2⟩:=hsecond y hy hne
          have h1n:isV v.value (O.getD 1 0)<0:=by
            rcases hcond.2 with q | q
            · omega
            · exact q
          exact(hi.neg (hOk.1 y hy).1).1 (by omega)
        have hfol:=k.follow (F':=F++[f]) hc hOk hOne hOnd (b:=(false,false)) rfl hmore (isV_zero hcond.1) hothers (fun h2=>by
          have m1:O.getD 1 0∈O:=List.mem_of_getElem? (getD_get (by omega))
          have hne:O.getD 1 0≠O.getD 0 0:=fun e=>by
            have:=nodup_abs hOnd (i:=1) (j:=0) (by omega) (by omega) (by rw[e])
            cases this
          have:=hl0 (hothers _ m1 hne)
          rw[lv_neg]at this
          rw[this,hlim];rfl) (fun _=>hlim) hi7 himp
        exact⟨hbr,hfol,⟨rfl,rfl,rfl,rfl,rfl,htot,hfr⟩,rfl,by show _≤(v.trail++[_]).length;rw[List.length_append];omega⟩
      · rw[if_neg hcond]
        have hnew:=k.new (F':=F++[f]) hc hOk hOne hOnd (b:=(false,false)) rfl hmore (fun h2=>by
          have m1:O.getD 1 0∈O:=List.mem_of_getElem? (getD_get (by omega))
          have hV1:=hOk.1 _ m1
          by_cases hp0:0<isV v.value (O.getD 0 0)
          · have hin:=(hi.pos hV0.1).1 hp0
            refine⟨fun q=>(hi.two hin (List.mem_of_mem_take q)).elim,fun q=>⟨hin,?_⟩⟩
            have:=hl0 (List.mem_of_mem_take q)
            rw[lv_neg]at this
            rw[hl0 hin,this]
            exact Int.le_refl _
          · have hz : isV v.value (O.getD 0 0) = 0 := by omega
            have hn1:¬ isV v.value (O.getD 1 0)<0:=fun q=>hcond ⟨hz,.inr q⟩
            refine⟨fun q=>?_,fun q=>?_⟩
            · have:=(hi.neg hV0.1).2 (List.mem_of_mem_take q);omega
            · exact absurd ((hi.neg hV1.1).2 (List.mem_of_mem_take q)) hn1) (fun h1=>by
          have hp0:0<isV v.value (O.getD 0 0):=by
            have:isV v.value (O.getD 0 0)≠0:=fun q=>hcond ⟨q,.inl h1⟩
            omega
          have hin:=(hi.pos hV0.1).1 hp0
          exact⟨hin,hl0 hin⟩) hi7 himp
        exact⟨hbr,hnew,⟨rfl,rfl,rfl,rfl,rfl,htot,hfr⟩,rfl,Nat.le_refl _⟩
section
variable{E:Env}{K:List AV→ASt→Prop}{ow:Ow}{s:ASt}{p:Nat}{x:Sf}{v:Sv}
theorem S_o28(hE:Good E)(h:SAt ow s p x v){n:Nat}(hz:Siz n v){b:Nat}(h1:1≤b)(hb:b≤n)(hp:v.phase.getD b 0=1∨v.phase.getD b 0=-1){x1 x2 x3 x4 x5 x7 x8 x9 x10 x11 x12 x13:AV}(hK:∀s' ow' x',SAt ow' s' p x' (assignV v ((b:Int) * v.phase.getD b 0) none)→Step (mine p) ow s ow' s'→K [AV.ptr (some (p,0)),x1,x2,x3,x4,x5,iv (b:Int),x7,x8,x9,x10,x11,x12,x13] s'):
    Qb E c34o28 K [] [AV.ptr (some (p,0)),x1,x2,x3,x4,x5,iv (b:Int),x7,x8,x9,x10,x11,x12,x13] s:=by
  have hsm:=hz.small
  have hph:=hz.phase
  have hg:=getD_get (d:=(0:Int)) (show b<v.phase.length by omega)
  have i1:=h.phase.addr Try.underlying23 sz3 (k:=b) (by rw[List.length_map];omega)
  have i2:=h.phase.get (t:=3) ag3 (k:=b) (get_ivs hg)
  have e1:=bin_mul Try.prog 3 (b:Int) (v.phase.getD b 0) (by rcases hp with e | e<;>rw[e]<;>constructor<;>omega)
  have hV:VL n ((b:Int) * v.phase.getD b 0):=by rcases hp with e | e<;>rw[e]<;>constructor<;>omega
  have hasg:=assign_ok hE h hz hV none
  have hwn:whyA none=.ptr none:=rfl
  rw[hwn]at hasg
  simp only[c34o28,nilCheck_ptr,fa91_6,h.ld_ph,i1,i2,e1,Qa,Qb,Qc,Qd,Qe,Qf,Qg,Qh,Qi,Qj,Qk,Ql,Qm,Qn,true_and,and_true,Qo,Qp,Qq,Qr,Qs,Qt,Qu,Qv,Qw,Qx,Qy,Qz,Ra,Rb,Rc,Rd,Re,Rf,Rg,Rh,Ri,Rj,Rk,Rl,Rm,Ya,Yb,Yc,Rn,Ro,Rp,Yd,Ye,Rq,Rs,Rt,Ru,Rv,Rw,Rx]
  refine hasg.mono ?_
  rintro _ s1 ⟨ow1,x1,g1,g2,_⟩
  simp only[Qa,Qb,Qc,Qd,Qe,Qf,Qg,Qh,Qi,Qj,Qk,Ql,Qm,Qn,true_and,and_true,Qo,Qp,Qq,Qr,Qs,Qt,Qu,Qv,Qw,Qx,Qy,Qz,Ra,Rb,Rc,Rd,Re,Rf,Rg,Rh,Ri,Rj,Rk,Rl,Rm,Ya,Yb,Yc,Rn,Ro,Rp,Yd,Ye,Rq,Rs,Rt,Ru,Rv,Rw,Rx]
  exact hK s1 ow1 x1 g1 g2.b
end
theorem solve_broken{E:Env}(hE:Good E){ow:Ow}{s:ASt}{p:Nat}{x:Sf}{v:Sv}(h:SAt ow s p x v)(hb:v.broken=true){Q:ARes→Prop}{x1 x2 x3 x4 x5 x6 x7 x8 x9 x10 x11 x12 x13:AV}
    (hq:∀y8,Q ⟨.exit 0,[AV.ptr (some (p,0)),x1,x2,x3,x4,x5,x6,x7,y8,x9,x10,x11,x12,x13],[],s⟩):
    WC E none (.loop c34l29) Q [AV.ptr (some (p,0)),x1,x2,x3,x4,x5,x6,x7,x8,x9,x10,x11,x12,x13] [] s:=by
  have ld:=h.ld_broken
  rw[hb]at ld
  refine WC.loop' ?_
  generalize hW:WC E none (CCode.loop c34l29) Q=W
  simp only[c34l29,c34o6,nilCheck_ptr,fa91_10,ld,Qa,Qb,Qc,Qd,Qe,Qf,Qg,Qh,Qi,Qj,Qk,Ql,Qm,Qn,true_and,and_true,Qo,Qp,Qq,Qr,Qs,Qt,Qu,Qv,Qw,Qx,Qy,Qz,Ra,Rb,Rc,Rd,Re,Rf,Rg,Rh,Ri,Rj,Rk,Rl,Rm,Ya,Yb,Yc,Rn,Ro,Rp,Yd,Ye,Rq,Rs,Rt,Ru,Rv,Rw,Rx]
  exact hq _
theorem solve_turn {E : Env} (hE : Good E) {n most : Nat} {I : Nat → Sv → Prop} {R : Int → Sv → Prop} (hl : SolveLaw n most I R) (hn : n ≤ 500000) (hmost : most ≤ 1000000) {p k u : Nat} (hu : u ≤ 100000000) {ow0 : Ow} {s0 : ASt} {ow : Ow} {s : ASt} {x : Sf} {v : Sv} (h : SAt ow s p x v) (hI : I k v) (hst : Step (mine p) ow0 s0 ow s) {Q : ARes → Prop} {x5 x6 x7 x8 x9 x10 x11 x12 x13 : AV}
    (hend:∀s' ow' x' v' y5 y6 y7 y8 y9 y10 y11 y12 y13 k' u',R 0 v'→SAt ow' s' p x' v'→Step (mine p) ow0 s0 ow' s'→Q ⟨.exit 0,[AV.ptr (some (p,0)),iv (most:Int),iv 0,u',k',y5,y6,y7,y8,y9,y10,y11,y12,y13],[],s'⟩)
    (hret:∀s' ow' x' v' r y3 y4 y5 y6 y7 y8 y9 y10 y11 y12 y13,R r v'→SAt ow' s' p x' v'→Step (mine p) ow0 s0 ow' s'→Q ⟨.ret,[AV.ptr (some (p,0)),iv (most:Int),iv r,y3,y4,y5,y6,y7,y8,y9,y10,y11,y12,y13],[],s'⟩)
    (hnext:∀s' ow' x' v' k' u' y5 y6 y8 y9 y10 y11 y12 y13,I k' v'→(k<k'∧u'=u∨k'=k∧u≤k∧u'=u+32∨k'=k∧u'=u∧v.trail.length<v'.trail.length)→SAt ow' s' p x' v'→Step (mine p) ow0 s0 ow' s'→WC E none (.loop c34l29) Q [AV.ptr (some (p,0)),iv (most:Int),iv 0,iv (u':Int),iv (k':Int),y5,y6,x7,y8,y9,y10,y11,y12,y13] [] s'):
    WC E none (.loop c34l29) Q [AV.ptr (some (p,0)),iv (most:Int),iv 0,iv (u:Int),iv (k:Int),x5,x6,x7,x8,x9,x10,x11,x12,x13] [] s:=by
  have hbr:∀ {ow:Ow} {s:ASt} {x:Sf} {v:Sv} {y5 y6 y8 y9 y10 y11 y12 y13:AV},SAt ow s p x v→v.broken=true→R 0 v→Step (mine p) ow0 s0 ow s→WC E none (.loop c34l29) Q [AV.ptr (some (p,0)),iv (most:Int),iv 0,iv (u:Int),iv (k:Int),y5,y6,x7,y8,y9,y10,y11,y12,y13] [] s:=
    fun h hb hR hst=>solve_broken hE h hb fun y8=>hend _ _ _ _ _ _ _ _ _ _ _ _ _ _ _ hR h hst
  cases hb:v.broken with
  | true=>exact hbr h hb (hl.brk hI hb) hst
  | false =>
    have ld:=h.ld_broken
    rw[hb]at ld
    obtain⟨hk,hi2⟩:=hl.ok hI
    refine WC.loop' ?_
    generalize hW:WC E none (CCode.loop c34l29) Q=W at hnext hbr
    simp only[c34l29,c34o6,nilCheck_ptr,fa91_10,ld,c34o7,Qa,Qb,Qc,Qd,Qe,Qf,Qg,Qh,Qi,Qj,Qk,Ql,Qm,Qn,true_and,and_true,Qo,Qp,Qq,Qr,Qs,Qt,Qu,Qv,Qw,Qx,Qy,Qz,Ra,Rb,Rc,Rd,Re,Rf,Rg,Rh,Ri,Rj,Rk,Rl,Rm,Ya,Yb,Yc,Rn,Ro,Rp,Yd,Ye,Rq,Rs,Rt,Ru,Rv,Rw,Rx]
    refine(propagate_ok hE h (B:=50000000) (Nat.le_refl _) hi2).mono ?_
    rintro _ s1 ⟨c,v1,ow1,x1,hp,rfl,h1,st1⟩
    obtain⟨m1,m2,m3,m4,m5⟩:=hl.mid hI hb hp
    obtain⟨hi1,hlim⟩:=hp.keep hi2
    have hf1:=hi1.inv.fit
    have hz1:=hf1.siz
    have htr:=hp.trail
    have stA:=hst.trans st1
    have hlimB:∀s,lenA Try.prog s 23 x1.lim=some (iv (v1.limits.length:Int)):=fun s=>by
      have:=h1.limits.len Try.underlying23 s
      rw[List.length_map]at this
      exact this
    cases c with
    | some c =>
      simp only[c34o8,eq_why,Option.isSome,c34o9,nilCheck_ptr,fa91_8,h1.ld_lim,hlimB,Qa,Qb,Qc,Qd,Qe,Qf,Qg,Qh,Qi,Qj,Qk,Ql,Qm,Qn,true_and,and_true,Qo,Qp,Qq,Qr,Qs,Qt,Qu,Qv,Qw,Qx,Qy,Qz,Ra,Rb,Rc,Rd,Re,Rf,Rg,Rh,Ri,Rj,Rk,Rl,Rm,Ya,Yb,Yc,Rn,Ro,Rp,Yd,Ye,Rq,Rs,Rt,Ru,Rv,Rw,Rx]
      by_cases hl0:v1.limits=[]
      · have d0:decide ((v1.limits.length:Int)=0)=true:=decide_eq_true (by rw[hl0];rfl)
        simp only[d0,c34o10,Qa,Qb,Qc,Qd,Qe,Qf,Qg,Qh,Qi,Qj,Qk,Ql,Qm,Qn,true_and,and_true,Qo,Qp,Qq,Qr,Qs,Qt,Qu,Qv,Qw,Qx,Qy,Qz,Ra,Rb,Rc,Rd,Re,Rf,Rg,Rh,Ri,Rj,Rk,Rl,Rm,Ya,Yb,Yc,Rn,Ro,Rp,Yd,Ye,Rq,Rs,Rt,Ru,Rv,Rw,Rx]
        refine(fail_ok hE h1 m1).mono ?_
        rintro _ s2 ⟨ow2,x2,g1,g2,_⟩
        simp only[if_true,show(1:Nat)≠2 by decide,if_false,Qa,Qb,Qc,Qd,Qe,Qf,Qg,Qh,Qi,Qj,Qk,Ql,Qm,Qn,true_and,and_true,Qo,Qp,Qq,Qr,Qs,Qt,Qu,Qv,Qw,Qx,Qy,Qz,Ra,Rb,Rc,Rd,Re,Rf,Rg,Rh,Ri,Rj,Rk,Rl,Rm,Ya,Yb,Yc,Rn,Ro,Rp,Yd,Ye,Rq,Rs,Rt,Ru,Rv,Rw,Rx]
        have hfb:(failV v1).broken=true:=by
          unfold failV
          split
          · assumption
          · rfl
        exact hbr g1 hfb (hl.fail hI hb hp hl0) (stA.trans g2.b)
      · have d0:decide ((v1.limits.length:Int)=0)=false:=decide_eq_false fun q=>hl0 (List.length_eq_zero_iff.1 (by omega))
        by_cases hmk:most≤k
        · have d1 : decide ((most : Int) ≤ (k : Int)) = true := decide_eq_true (by omega)
          have hback:WF E 63 [.ptr (some (p,0)),.int .i64 0] (fun _ s'=>∃x',SAt ow1 s' p x' (backV v1 0)∧Step (mineB p) ow1 s1 ow1 s'∧x'.w=x1.w) s1:=back_ok' hE h1 hf1 (level:=0) (by decide)
          simp only[d0,c34o11,d1,c34o12,Qa,Qb,Qc,Qd,Qe,Qf,Qg,Qh,Qi,Qj,Qk,Ql,Qm,Qn,true_and,and_true,Qo,Qp,Qq,Qr,Qs,Qt,Qu,Qv,Qw,Qx,Qy,Qz,Ra,Rb,Rc,Rd,Re,Rf,Rg,Rh,Ri,Rj,Rk,Rl,Rm,Ya,Yb,Yc,Rn,Ro,Rp,Yd,Ye,Rq,Rs,Rt,Ru,Rv,Rw,Rx]
          refine hback.mono ?_
          rintro _ s2 ⟨x2,g1,g2,_⟩
          simp only[c34o13,Qa,Qb,Qc,Qd,Qe,Qf,Qg,Qh,Qi,Qj,Qk,Ql,Qm,Qn,true_and,and_true,Qo,Qp,Qq,Qr,Qs,Qt,Qu,Qv,Qw,Qx,Qy,Qz,Ra,Rb,Rc,Rd,Re,Rf,Rg,Rh,Ri,Rj,Rk,Rl,Rm,Ya,Yb,Yc,Rn,Ro,Rp,Yd,Ye,Rq,Rs,Rt,Ru,Rv,Rw,Rx]
          exact hret s2 ow1 x2 _ 2 _ _ _ _ _ _ _ _ _ _ _ (hl.unk hI hb hp hl0 hmk) g1 (stA.trans g2.b)
        · have d1 : decide ((most : Int) ≤ (k : Int)) = false := decide_eq_false (by omega)
          have e1:=bin_add Try.prog 3 (k:Int) 1 ⟨by omega,by omega⟩
          have e1':((k:Int)+1)=((k+1:Nat):Int):=by omega
          obtain⟨r,r1,r2,r3,r4,r5⟩:=hl.lrn hI hb hp hl0 (by omega)
          simp only[d0,c34o11,d1,c34o14,e1,e1',whyA,ptrA,Qa,Qb,Qc,Qd,Qe,Qf,Qg,Qh,Qi,Qj,Qk,Ql,Qm,Qn,true_and,and_true,Qo,Qp,Qq,Qr,Qs,Qt,Qu,Qv,Qw,Qx,Qy,Qz,Ra,Rb,Rc,Rd,Re,Rf,Rg,Rh,Ri,Rj,Rk,Rl,Rm,Ya,Yb,Yc,Rn,Ro,Rp,Yd,Ye,Rq,Rs,Rt,Ru,Rv,Rw,Rx]
          refine S_o15 h1 ?_
          intro s2 h2 st2
          try simp only[Qa,Qb,Qc,Qd,Qe,Qf,Qg,Qh,Qi,Qj,Qk,Ql,Qm,Qn,true_and,and_true,Qo,Qp,Qq,Qr,Qs,Qt,Qu,Qv,Qw,Qx,Qy,Qz,Ra,Rb,Rc,Rd,Re,Rf,Rg,Rh,Ri,Rj,Rk,Rl,Rm,Ya,Yb,Yc,Rn,Ro,Rp,Yd,Ye,Rq,Rs,Rt,Ru,Rv,Rw,Rx]
          refine S_o16 hE h2 hn hf1 m4 r1 r2 r3 r4 m1 (by have:=hi1.tot;omega) m2 ?_
          intro s3 ow3 x3 h' cn f1 f2 f3 f4
          simp only[if_true,show(1:Nat)≠2 by decide,if_false,Qa,Qb,Qc,Qd,Qe,Qf,Qg,Qh,Qi,Qj,Qk,Ql,Qm,Qn,true_and,and_true,Qo,Qp,Qq,Qr,Qs,Qt,Qu,Qv,Qw,Qx,Qy,Qz,Ra,Rb,Rc,Rd,Re,Rf,Rg,Rh,Ri,Rj,Rk,Rl,Rm,Ya,Yb,Yc,Rn,Ro,Rp,Yd,Ye,Rq,Rs,Rt,Ru,Rv,Rw,Rx]
          exact hnext s3 ow3 x3 _ (k+1) u _ _ _ _ _ _ _ _ (r5 h' cn f1 f2) (.inl ⟨by omega,rfl⟩) f3 ((stA.trans st2.b).trans f4)
    | none =>
      simp only[c34o8,eq_why,Option.isSome,c34o17,Qa,Qb,Qc,Qd,Qe,Qf,Qg,Qh,Qi,Qj,Qk,Ql,Qm,Qn,true_and,and_true,Qo,Qp,Qq,Qr,Qs,Qt,Qu,Qv,Qw,Qx,Qy,Qz,Ra,Rb,Rc,Rd,Re,Rf,Rg,Rh,Ri,Rj,Rk,Rl,Rm,Ya,Yb,Yc,Rn,Ro,Rp,Yd,Ye,Rq,Rs,Rt,Ru,Rv,Rw,Rx]
      by_cases huk:u≤k
      · have d1 : decide ((u : Int) ≤ (k : Int)) = true := decide_eq_true (by omega)
        have e1:=bin_add Try.prog 3 (u:Int) 32 ⟨by omega,by omega⟩
        have e1':((u:Int)+32)=((u+32:Nat):Int):=by omega
        simp only[d1,c34o18,e1,e1',c34o19,Qa,Qb,Qc,Qd,Qe,Qf,Qg,Qh,Qi,Qj,Qk,Ql,Qm,Qn,true_and,and_true,Qo,Qp,Qq,Qr,Qs,Qt,Qu,Qv,Qw,Qx,Qy,Qz,Ra,Rb,Rc,Rd,Re,Rf,Rg,Rh,Ri,Rj,Rk,Rl,Rm,Ya,Yb,Yc,Rn,Ro,Rp,Yd,Ye,Rq,Rs,Rt,Ru,Rv,Rw,Rx]
        refine(cool_ok hE h1 (by have:=hz1.heat;have:=hz1.small;omega)).mono ?_
        rintro _ s2 ⟨h',h2,hl2,st2⟩
        have hf2:Fit n (heatV v1 h'):=⟨⟨hz1.small,hz1.w,hz1.value,hz1.level,hz1.why,hl2.trans hz1.heat,hz1.phase,hz1.trail,hz1.limits⟩,hf1.val,hf1.lits,hf1.lims⟩
        have hback:WF E 63 [.ptr (some (p,0)),.int .i64 0] (fun _ s'=>∃x',SAt ow1 s' p x' (backV (heatV v1 h') 0)∧Step (mineB p) ow1 s2 ow1 s'∧x'.w=x1.w) s2:=back_ok' hE h2 hf2 (level:=0) (by decide)
        simp only[c34o20,Qa,Qb,Qc,Qd,Qe,Qf,Qg,Qh,Qi,Qj,Qk,Ql,Qm,Qn,true_and,and_true,Qo,Qp,Qq,Qr,Qs,Qt,Qu,Qv,Qw,Qx,Qy,Qz,Ra,Rb,Rc,Rd,Re,Rf,Rg,Rh,Ri,Rj,Rk,Rl,Rm,Ya,Yb,Yc,Rn,Ro,Rp,Yd,Ye,Rq,Rs,Rt,Ru,Rv,Rw,Rx]
        refine hback.mono ?_
        rintro _ s3 ⟨x3,h3,st3,_⟩
        obtain⟨q1,q2⟩:=hl.cool hI hb hp h' hl2
        have hroom:(backV (heatV v1 h') 0).room=v1.room:=by
          obtain⟨ph,va,wh,tr,li,hd,e,_⟩:=backV_eq (heatV v1 h') 0
          rw[e]
          rfl
        simp only[c34o21,Qa,Qb,Qc,Qd,Qe,Qf,Qg,Qh,Qi,Qj,Qk,Ql,Qm,Qn,true_and,and_true,Qo,Qp,Qq,Qr,Qs,Qt,Qu,Qv,Qw,Qx,Qy,Qz,Ra,Rb,Rc,Rd,Re,Rf,Rg,Rh,Ri,Rj,Rk,Rl,Rm,Ya,Yb,Yc,Rn,Ro,Rp,Yd,Ye,Rq,Rs,Rt,Ru,Rv,Rw,Rx]
        refine(drop_room hE h3 (by rw[q2,hroom];exact m3)).mono ?_
        rintro _ s4 ⟨ow4,h4,st4⟩
        simp only[if_true,Qa,Qb,Qc,Qd,Qe,Qf,Qg,Qh,Qi,Qj,Qk,Ql,Qm,Qn,true_and,and_true,Qo,Qp,Qq,Qr,Qs,Qt,Qu,Qv,Qw,Qx,Qy,Qz,Ra,Rb,Rc,Rd,Re,Rf,Rg,Rh,Ri,Rj,Rk,Rl,Rm,Ya,Yb,Yc,Rn,Ro,Rp,Yd,Ye,Rq,Rs,Rt,Ru,Rv,Rw,Rx]
        exact hnext s4 ow4 x3 _ k (u+32) _ _ _ _ _ _ _ _ q1 (.inr (.inl ⟨rfl,huk,rfl⟩)) h4 (((stA.trans st2.b).trans st3.b).trans st4.b)
      · have d1:decide ((u:Int)≤(k:Int))=false:=decide_eq_false (by omega)
        simp only[d1,c34o22,Qa,Qb,Qc,Qd,Qe,Qf,Qg,Qh,Qi,Qj,Qk,Ql,Qm,Qn,true_and,and_true,Qo,Qp,Qq,Qr,Qs,Qt,Qu,Qv,Qw,Qx,Qy,Qz,Ra,Rb,Rc,Rd,Re,Rf,Rg,Rh,Ri,Rj,Rk,Rl,Rm,Ya,Yb,Yc,Rn,Ro,Rp,Yd,Ye,Rq,Rs,Rt,Ru,Rv,Rw,Rx]
        refine(next_ok hE h1 hz1.small hz1.value hz1.heat).mono ?_
        rintro _ s2 ⟨b,ow2,rfl,hnx,h2,st2⟩
        have stB:=stA.trans st2.b
        rcases hnx with⟨hb0,hall⟩ | ⟨hb1,hb2,hb3⟩
        · have d2:decide ((b:Int)=0)=true:=decide_eq_true (by omega)
          simp only[c34o23,d2,Qa,Qb,Qc,Qd,Qe,Qf,Qg,Qh,Qi,Qj,Qk,Ql,Qm,Qn,true_and,and_true,Qo,Qp,Qq,Qr,Qs,Qt,Qu,Qv,Qw,Qx,Qy,Qz,Ra,Rb,Rc,Rd,Re,Rf,Rg,Rh,Ri,Rj,Rk,Rl,Rm,Ya,Yb,Yc,Rn,Ro,Rp,Yd,Ye,Rq,Rs,Rt,Ru,Rv,Rw,Rx]
          refine S_o24 hE h2 hn hz1.value ?_
          intro s3 ow3 x3 h3 st3
          have hf3:Fit n { v1 with model:=v1.value }:=⟨⟨hz1.small,hz1.w,hz1.value,hz1.level,hz1.why,hz1.heat,hz1.phase,hz1.trail,hz1.limits⟩,hf1.val,hf1.lits,hf1.lims⟩
          have hback:WF E 63 [.ptr (some (p,0)),.int .i64 0] (fun _ s'=>∃x',SAt ow3 s' p x' (modelV v1)∧Step (mineB p) ow3 s3 ow3 s'∧x'.w=x3.w) s3:=back_ok' hE h3 hf3 (level:=0) (by decide)
          simp only[c34o25,Qa,Qb,Qc,Qd,Qe,Qf,Qg,Qh,Qi,Qj,Qk,Ql,Qm,Qn,true_and,and_true,Qo,Qp,Qq,Qr,Qs,Qt,Qu,Qv,Qw,Qx,Qy,Qz,Ra,Rb,Rc,Rd,Re,Rf,Rg,Rh,Ri,Rj,Rk,Rl,Rm,Ya,Yb,Yc,Rn,Ro,Rp,Yd,Ye,Rq,Rs,Rt,Ru,Rv,Rw,Rx]
          refine hback.mono ?_
          rintro _ s4 ⟨x4,h4,st4,_⟩
          simp only[c34o26,Qa,Qb,Qc,Qd,Qe,Qf,Qg,Qh,Qi,Qj,Qk,Ql,Qm,Qn,true_and,and_true,Qo,Qp,Qq,Qr,Qs,Qt,Qu,Qv,Qw,Qx,Qy,Qz,Ra,Rb,Rc,Rd,Re,Rf,Rg,Rh,Ri,Rj,Rk,Rl,Rm,Ya,Yb,Yc,Rn,Ro,Rp,Yd,Ye,Rq,Rs,Rt,Ru,Rv,Rw,Rx]
          exact hret s4 ow3 x4 _ 1 _ _ _ _ _ _ _ _ _ _ _ (hl.maybe hI hb hp hall) h4 ((stB.trans st3).trans st4.b)
        · have d2 : decide ((b : Int) = 0) = false := decide_eq_false (by omega)
          have hvl:=hz1.value
          have hIn:=hl.dec hI hb hp hb1 (by omega) hb3
          have hlt:v1.trail.length<(guessV v1 b).trail.length:=by
            show _<(v1.trail++[_]).length
            rw[List.length_append];simp
          have hll:v1.limits.length+1≤n:=by
            have:=(hl.ok hIn).2.inv.fit.siz.limits
            have e:(guessV v1 b).limits.length=v1.limits.length+1:=by
              show(v1.limits++[_]).length=_
              rw[List.length_append];rfl
            omega
          simp only[c34o23,d2,Qa,Qb,Qc,Qd,Qe,Qf,Qg,Qh,Qi,Qj,Qk,Ql,Qm,Qn,true_and,and_true,Qo,Qp,Qq,Qr,Qs,Qt,Qu,Qv,Qw,Qx,Qy,Qz,Ra,Rb,Rc,Rd,Re,Rf,Rg,Rh,Ri,Rj,Rk,Rl,Rm,Ya,Yb,Yc,Rn,Ro,Rp,Yd,Ye,Rq,Rs,Rt,Ru,Rv,Rw,Rx]
          refine S_o27 h2 (by omega) ?_
          intro s3 ow3 x3 h3 st3
          try simp only[Qa,Qb,Qc,Qd,Qe,Qf,Qg,Qh,Qi,Qj,Qk,Ql,Qm,Qn,true_and,and_true,Qo,Qp,Qq,Qr,Qs,Qt,Qu,Qv,Qw,Qx,Qy,Qz,Ra,Rb,Rc,Rd,Re,Rf,Rg,Rh,Ri,Rj,Rk,Rl,Rm,Ya,Yb,Yc,Rn,Ro,Rp,Yd,Ye,Rq,Rs,Rt,Ru,Rv,Rw,Rx]
          refine S_o28 hE h3 (n:=n) ⟨hz1.small,hz1.w,hz1.value,hz1.level,hz1.why,hz1.heat,hz1.phase,hz1.trail,by show(v1.limits++[_]).length≤n;rw[List.length_append];exact hll⟩ hb1 (by omega) (m5 b hb1 (by omega)) ?_
          intro s4 ow4 x4 h4 st4
          try simp only[Qa,Qb,Qc,Qd,Qe,Qf,Qg,Qh,Qi,Qj,Qk,Ql,Qm,Qn,true_and,and_true,Qo,Qp,Qq,Qr,Qs,Qt,Qu,Qv,Qw,Qx,Qy,Qz,Ra,Rb,Rc,Rd,Re,Rf,Rg,Rh,Ri,Rj,Rk,Rl,Rm,Ya,Yb,Yc,Rn,Ro,Rp,Yd,Ye,Rq,Rs,Rt,Ru,Rv,Rw,Rx]
          exact hnext s4 ow4 x4 _ k u _ _ _ _ _ _ _ _ hIn (.inr (.inr ⟨rfl,rfl,by omega⟩)) h4 ((stB.trans st3).trans st4)
theorem solve_loop{E:Env}(hE:Good E){n most:Nat}{I:Nat→Sv→Prop}{R:Int→Sv→Prop}(hl:SolveLaw n most I R)(hn:n≤500000)(hmost:most≤1000000){p:Nat}{ow0:Ow}{s0:ASt}{Q:ARes→Prop}{x7:AV}
    (hend:∀s' ow' x' v' y5 y6 y7 y8 y9 y10 y11 y12 y13 k' u',R 0 v'→SAt ow' s' p x' v'→Step (mine p) ow0 s0 ow' s'→Q ⟨.exit 0,[AV.ptr (some (p,0)),iv (most:Int),iv 0,u',k',y5,y6,y7,y8,y9,y10,y11,y12,y13],[],s'⟩)
    (hret:∀s' ow' x' v' r y3 y4 y5 y6 y7 y8 y9 y10 y11 y12 y13,R r v'→SAt ow' s' p x' v'→Step (mine p) ow0 s0 ow' s'→Q ⟨.ret,[AV.ptr (some (p,0)),iv (most:Int),iv r,y3,y4,y5,y6,y7,y8,y9,y10,y11,y12,y13],[],s'⟩):
    ∀ (m1 m2 m3:Nat) (k u:Nat) (s:ASt) (ow:Ow) (x:Sf) (v:Sv) (x5 x6 x8 x9 x10 x11 x12 x13:AV),most - k=m1→k+1 - u=m2→n - v.trail.length=m3→u≤50+k+32→I k v→SAt ow s p x v→Step (mine p) ow0 s0 ow s →
      WC E none (.loop c34l29) Q [AV.ptr (some (p,0)),iv (most:Int),iv 0,iv (u:Int),iv (k:Int),x5,x6,x7,x8,x9,x10,x11,x12,x13] [] s:=by
  intro m1
  induction m1 using Nat.strongRecOn with
  | _ m1 ih1 =>
  intro m2
  induction m2 using Nat.strongRecOn with
  | _ m2 ih2 =>
  intro m3
  induction m3 using Nat.strongRecOn with
  | _ m3 ih3 =>
  intro k u s ow x v x5 x6 x8 x9 x10 x11 x12 x13 e1 e2 e3 hu hI h hst
  have hk:=(hl.ok hI).1
  refine solve_turn hE hl hn hmost (u:=u) (by omega) h hI hst hend hret ?_
  intro s' ow' x' v' k' u' y5 y6 y8 y9 y10 y11 y12 y13 hI' hc h' st'
  have hk':=(hl.ok hI').1
  have ht':=(hl.ok hI').2.inv.fit.siz.trail
  rcases hc with⟨c1,c2⟩ | ⟨c1,c2,c3⟩ | ⟨c1,c2,c3⟩
  · exact ih1 (most - k') (by omega) (k'+1 - u') (n - v'.trail.length) k' u' s' ow' x' v' _ _ _ _ _ _ _ _ rfl rfl rfl (by omega) hI' h' st'
  · exact ih2 (k'+1 - u') (by omega) (n - v'.trail.length) k' u' s' ow' x' v' _ _ _ _ _ _ _ _ (by omega) rfl rfl (by omega) hI' h' st'
  · exact ih3 (n - v'.trail.length) (by omega) k' u' s' ow' x' v' _ _ _ _ _ _ _ _ (by omega) (by omega) rfl (by omega) hI' h' st'
theorem solve_ok{E:Env}(hE:Good E){n most:Nat}{I:Nat→Sv→Prop}{R:Int→Sv→Prop}(hl:SolveLaw n most I R)(hn:n≤500000)(hmost:most≤1000000){ow:Ow}{s:ASt}{p:Nat}{x:Sf}{v:Sv}(h:SAt ow s p x v)(hf:Fit n v)(hI:I 0 (backV v 0)):
    WF E 34 [ptrA p,iv (most:Int)] (fun r s'=>∃c v' ow' x',r=iv c∧R c v'∧SAt ow' s' p x' v'∧Step (mine p) ow s ow' s') s:=by
  have he:=eq_ptr44 p
  simp only[ptrA]at he
  have hback:WF E 63 [.ptr (some (p,0)),.int .i64 0] (fun _ s'=>∃x',SAt ow s' p x' (backV v 0)∧Step (mineB p) ow s ow s'∧x'.w=x.w) s:=back_ok' hE h hf (level:=0) (by decide)
  refine hE.go comp34 (by decide) rfl ?_
  simp only[c34,c34o0,c34o1,ptrA,he,c34o3,Qa,Qb,Qc,Qd,Qe,Qf,Qg,Qh,Qi,Qj,Qk,Ql,Qm,Qn,true_and,and_true,Qo,Qp,Qq,Qr,Qs,Qt,Qu,Qv,Qw,Qx,Qy,Qz,Ra,Rb,Rc,Rd,Re,Rf,Rg,Rh,Ri,Rj,Rk,Rl,Rm,Ya,Yb,Yc,Rn,Ro,Rp,Yd,Ye,Rq,Rs,Rt,Ru,Rv,Rw,Rx]
  refine hback.mono ?_
  rintro _ s1 ⟨x1,h1,st1,_⟩
  simp only[c34o4,c34o5,Qa,Qb,Qc,Qd,Qe,Qf,Qg,Qh,Qi,Qj,Qk,Ql,Qm,Qn,true_and,and_true,Qo,Qp,Qq,Qr,Qs,Qt,Qu,Qv,Qw,Qx,Qy,Qz,Ra,Rb,Rc,Rd,Re,Rf,Rg,Rh,Ri,Rj,Rk,Rl,Rm,Ya,Yb,Yc,Rn,Ro,Rp,Yd,Ye,Rq,Rs,Rt,Ru,Rv,Rw,Rx]
  refine solve_loop hE hl hn hmost (ow0:=ow) (s0:=s) ?_ ?_ _ _ _ 0 32 s1 ow x1 (backV v 0) _ _ _ _ _ _ _ _ rfl rfl rfl (by omega) hI h1 st1.b
  · intro s' ow' x' v' y5 y6 y7 y8 y9 y10 y11 y12 y13 k' u' hR hS hst
    simp only[if_true,c34o30,Qa,Qb,Qc,Qd,Qe,Qf,Qg,Qh,Qi,Qj,Qk,Ql,Qm,Qn,true_and,and_true,Qo,Qp,Qq,Qr,Qs,Qt,Qu,Qv,Qw,Qx,Qy,Qz,Ra,Rb,Rc,Rd,Re,Rf,Rg,Rh,Ri,Rj,Rk,Rl,Rm,Ya,Yb,Yc,Rn,Ro,Rp,Yd,Ye,Rq,Rs,Rt,Ru,Rv,Rw,Rx]
    exact⟨0,v',ow',x',rfl,hR,hS,hst⟩
  · intro s' ow' x' v' r y3 y4 y5 y6 y7 y8 y9 y10 y11 y12 y13 hR hS hst
    simp only[Qa,Qb,Qc,Qd,Qe,Qf,Qg,Qh,Qi,Qj,Qk,Ql,Qm,Qn,true_and,and_true,Qo,Qp,Qq,Qr,Qs,Qt,Qu,Qv,Qw,Qx,Qy,Qz,Ra,Rb,Rc,Rd,Re,Rf,Rg,Rh,Ri,Rj,Rk,Rl,Rm,Ya,Yb,Yc,Rn,Ro,Rp,Yd,Ye,Rq,Rs,Rt,Ru,Rv,Rw,Rx]
    exact⟨r,v',ow',x',rfl,hR,hS,hst⟩
structure Live(n A:Nat)(F:List (List Int))(C:List Nat)(v:Sv):Prop where
  brk:v.broken=false
  ci:CI n F v.head.toNat v
  h0:0≤v.head
  h1:v.head≤(v.trail.length:Int)
  cod:Cod n A v C
structure Dead(n:Nat)(F:List (List Int))(M:Nat)(v:Sv):Prop where
  brk:v.broken=true
  inv:Inv2 n 50000000 v
  lim:v.limits=[]
  trc:v.trace.length≤1000000
  many:v.many≤(M:Int)
  no:∀σ,¬ Models σ F
def tells(m:List Int)(k:Nat):Bool:=decide (0<m.getD k 0)
theorem Cod.of{n A:Nat}{v v':Sv}{C:List Nat}(h:Cod n A v C)(h1:v'.cl=v.cl)(h2:v'.many=v.many)(h3:v'.learned=v.learned)(h4:v'.trace=v.trace)(h5:v'.watches=v.watches)(h6:v'.room=v.room):Cod n A v' C:=
  ⟨h.nd,by rw[h1];exact h.mem,by rw[h2];exact h.many,by rw[h3];exact h.lrn,by rw[h4];exact h.trc,by rw[h5];exact h.tot,by rw[h6];exact h.room⟩
theorem Cod.prog{n A:Nat}{v v':Sv}{C:List Nat}(h:Cod n A v C)(p:Prog v v')(ht:Tot v'.watches≤2 * (A+C.length)):Cod n A v' C:=
  ⟨h.nd,fun k hk=>by
    obtain⟨h1,h2,c,ls,b,h3,h4⟩:=h.mem k hk
    obtain⟨ls',q1,q2⟩:=(p.cl c).2 ls b h3
    exact⟨h1,h2,c,ls',b,q1,by rw[← h4];exact code_congr (fun x=>q2.mem_iff) n⟩,by rw[p.many];exact h.many,by rw[p.learned];exact h.lrn,by rw[p.trace];exact h.trc,ht,by rw[p.room];exact h.room⟩
theorem Cod.back{n A:Nat}{v:Sv}{C:List Nat}(h:Cod n A v C)(j:Nat):Cod n A (backV v j) C:=by
  obtain⟨ph,va,wh,tr,li,hd,e,_⟩:=backV_eq v j
  rw[e]
  exact h.of rfl rfl rfl rfl rfl rfl
theorem CI.zero{n h:Nat}{F:List (List Int)}{w:Sv}(k:CI n F h w)(hz:w.limits=[]→h=w.head.toNat∧0≤w.head∧w.head≤(w.trail.length:Int)):CI n F (backV w 0).head.toNat (backV w 0)∧(backV w 0).limits=[]∧0≤(backV w 0).head∧(backV w 0).head≤((backV w 0).trail.length:Int):=by
  by_cases hl:w.limits=[]
  · obtain⟨g1,g2,g3⟩:=hz hl
    rw[back_none (by rw[hl];exact Nat.le_refl _)]
    exact⟨by rw[← g1];exact k,hl,g2,g3⟩
  · have hpos : 0 < w.limits.length := List.length_pos_iff.2 hl
    have ht:=getD_get (d:=(0:Int)) hpos
    generalize w.limits.getD 0 0=t at ht
    obtain⟨b1,b2,b3,b4⟩:=k.back ht
    have ht0:=k.ct.lim t (List.mem_of_getElem? ht)
    have htl:=k.ct.below t (List.mem_of_getElem? ht)
    refine⟨by rw[b4];exact b1,by rw[b3];rfl,by rw[b4];exact ht0,?_⟩
    rw[b4,b2,List.length_take]
    omega
theorem Inv1.heat{n:Nat}{v:Sv}(hi:Inv1 n v){h:List Int}(hl:h.length=v.heat.length):Inv1 n (heatV v h):=by
  obtain⟨⟨hz,hv,hli,hlm⟩,g2,g3,g4,g5⟩:=hi
  exact⟨⟨⟨hz.small,hz.w,hz.value,hz.level,hz.why,hl.trans hz.heat,hz.phase,hz.trail,hz.limits⟩,hv,hli,hlm⟩,g2,g3,g4,g5⟩
theorem Inv1.many{n:Nat}{v:Sv}(hi:Inv1 n v):Inv1 n (manyV v):=by
  obtain⟨⟨hz,hv,hli,hlm⟩,g2,g3,g4,g5⟩:=hi
  exact⟨⟨⟨hz.small,hz.w,hz.value,hz.level,hz.why,hz.heat,hz.phase,hz.trail,hz.limits⟩,hv,hli,hlm⟩,g2,g3,g4,g5⟩
theorem Inv1.model{n:Nat}{v:Sv}(hi:Inv1 n v)(m:List Int):Inv1 n { v with model:=m }:=by
  obtain⟨⟨hz,hv,hli,hlm⟩,g2,g3,g4,g5⟩:=hi
  exact⟨⟨⟨hz.small,hz.w,hz.value,hz.level,hz.why,hz.heat,hz.phase,hz.trail,hz.limits⟩,hv,hli,hlm⟩,g2,g3,g4,g5⟩
theorem CI.models {n : Nat} {F : List (List Int)} {v : Sv} (k : CI n F v.trail.length v) (hF : ∀ f ∈ F, ∀ y ∈ f, VL n y) (hall : ∀ j, 1 ≤ j → j < n + 1 → v.value.getD j 0 ≠ 0) : Models (tells v.value) F := by
  have hi:=k.ct.inv
  have hsat:∀ {y:Int},y∈v.trail→Sat (tells v.value) y:=fun {y} hy=>by
    have h1:=hi.holds y hy
    have h0:=(hi.fit.lits y hy).1
    unfold Sat tells
    rw[h1]
    unfold sgn
    rcases Int.lt_or_gt_of_ne h0 with q | q
    · right;exact⟨q,by rw[if_pos q];rfl⟩
    · left;exact⟨q,by rw[if_neg (by omega)];rfl⟩
  have hval:∀ {y:Int},VL n y→y∈v.trail∨-y∈v.trail:=fun {y} hy=>by
    by_cases h1:y∈v.trail
    · exact .inl h1
    · by_cases h2 : -y ∈ v.trail
      · exact .inr h2
      · have:=hi.zero hy.1 h1 h2
        exact absurd this (hall _ (by have:=hy.1;omega) (by have:=hy.2;omega))
  intro f hf
  rcases k.cover f hf with⟨y,h1,h2⟩ | ⟨c,ls,b,h1,h2⟩
  · rcases Sat.or (σ := tells v.value) (hF f hf y h1).1 with q | q
    · exact⟨y,h1,q⟩
    · exact⟨-y,h2,q⟩
  · obtain⟨c1,c2,c3,c4⟩:=k.ct.cls c ls b h1
    have m0:ls.getD 0 0∈ls:=List.mem_of_getElem? (getD_get (List.length_pos_iff.2 c2))
    by_cases hl1:ls.length=1
    · exact⟨_,h2 _ m0,hsat (k.unit c ls b h1 hl1).1⟩
    · have h2l:2≤ls.length:=by
        have:=List.length_pos_iff.2 c2
        omega
      have m1:ls.getD 1 0∈ls:=List.mem_of_getElem? (getD_get (by omega))
      rcases hval (c1.1 _ m0)with q | q
      · exact⟨_,h2 _ m0,hsat q⟩
      · have hok:=(k.cw.wok c ls b h1 h2l).2 (by simp)
        unfold Wok at hok
        rw[List.take_length]at hok
        exact⟨_,h2 _ m1,hsat (hok.1 q).1⟩
def LoopI(n A:Nat)(F:List (List Int))(c0 most k:Nat)(v:Sv):Prop:=k≤most∧((∃C,Live n A F C v∧C.length=c0+k)∨Dead n F (c0+most) v)
def LoopR(n A:Nat)(F:List (List Int))(c0 most:Nat)(r:Int)(v:Sv):Prop:=
  (r=0∧Dead n F (c0+most) v)∨(r=1∧∃C,Live n A F C v∧v.limits=[]∧C.length≤c0+most∧v.model.length=n+1∧Models (tells v.model) F) ∨
  (r=2∧∃C,Live n A F C v∧v.limits=[]∧C.length≤c0+most∧c0+most+1≤3 ^ n - 1)
theorem live_prop{n A:Nat}{F:List (List Int)}{C:List Nat}{v v1:Sv}{c:Option Nat}(hL:Live n A F C v)(hA:2 * (A+C.length)≤50000000)(hp:PropR v c v1):
    Prog v v1∧CT n v1∧Inv2 n 50000000 v1∧Cod n A v1 C∧(c=none→CI n F v1.trail.length v1∧v1.head=(v1.trail.length:Int))∧∀d,c=some d→∃h,CI n F h v1∧(v1.limits=[]→True)∧∃l,Fails v1 d l∧lv v1 l=(v1.limits.length:Int):=by
  have hI2:Inv2 n (2 * (A+C.length)) v:=⟨hL.ci.ct.inv,hL.cod.tot,hL.h0,hL.h1⟩
  have hlh:∀x∈v.limits,x≤v.head:=fun x hx=>by have:=hL.ci.lh x hx;have:=hL.h0;omega
  obtain⟨p1,p2,p3,p4,p5⟩:=hp.cw hL.ci.ct hL.ci.cw hI2 hlh
  refine⟨p1,p2,⟨p3.inv,by have:=p3.tot;omega,p3.h0,p3.h1⟩,hL.cod.prog p1 p3.tot,fun hc=>?_,fun d hd=>?_⟩
  · obtain⟨q1,q2⟩:=p4 hc
    have e:v1.head.toNat=v1.trail.length:=by omega
    rw[e]at q1
    refine⟨hL.ci.prog p1 p2 q1 (Nat.le_refl _) fun x hx=>?_,q2⟩
    have:=hL.ci.ct.below x hx
    obtain⟨T,eT⟩:=p1.tr
    rw[eT,List.length_append]
    omega
  · obtain⟨h,q1,q2,l,q3,q4⟩:=p5 d hd
    have hlen:v.trail.length≤v1.trail.length:=by
      obtain⟨T,eT⟩:=p1.tr
      rw[eT,List.length_append];omega
    have hcw:CW v1 (min h v1.trail.length) []:=q1.less (Nat.min_le_left _ _)
    refine⟨min h v1.trail.length,hL.ci.prog p1 p2 hcw (Nat.min_le_right _ _) fun x hx=>?_,fun _=>trivial,l,q3,by rw[p1.limits];exact q4⟩
    have:=q2 x hx
    have:=hL.ci.ct.below x hx
    omega
theorem solve_law {n A : Nat} {F : List (List Int)} {c0 most : Nat} (hF : ∀ f ∈ F, ∀ y ∈ f, VL n y) (hA : A ≤ 1000000) (hb : 3 ^ n ≤ 1900 ∨ c0 + most ≤ 1900) : SolveLaw n most (LoopI n A F c0 most) (LoopR n A F c0 most) := by
  have small:∀ {C:List Nat} {v:Sv} {k:Nat},Live n A F C v→C.length=c0+k→k≤most→C.length≤1900:=fun hL he hk=>by
    rcases hb with q | q
    · have:=hL.cod.len;omega
    · omega
  have live:∀ {k v},LoopI n A F c0 most k v→v.broken=false→k≤most∧∃C,Live n A F C v∧C.length=c0+k∧C.length≤1900:=fun hI hbr=>by
    obtain⟨hk,⟨C,hL,he⟩ | hD⟩:=hI
    · exact⟨hk,C,hL,he,small hL he hk⟩
    · rw[hD.brk]at hbr;cases hbr
  refine⟨fun hI=>?_,fun hI hbr=>?_,fun hI hbr hp=>?_,fun hI hbr hp hl=>?_,fun hI hbr hp hl hk=>?_,fun hI hbr hp hl hk=>?_,fun hI hbr hp h hh=>?_,fun hI hbr hp hall=>?_,fun hI hbr hp h1 h2 h3=>?_⟩
  · obtain ⟨hk, ⟨C, hL, he⟩ | hD⟩ := hI
    · have:=small hL he hk
      exact⟨hk,hL.ci.ct.inv,by have:=hL.cod.tot;omega,hL.h0,hL.h1⟩
    · exact⟨hk,hD.inv⟩
  · obtain ⟨hk, ⟨C, hL, he⟩ | hD⟩ := hI
    · rw[hL.brk]at hbr;cases hbr
    · exact .inl ⟨rfl,hD⟩
  · obtain ⟨hk, C, hL, he, hs⟩ := live hI hbr
    obtain⟨p1,p2,p3,p4,p5,p6⟩:=live_prop hL (by omega) hp
    refine⟨by have:=p4.trc;omega,by have:=p4.lrn;omega,by rw[p4.room];have:=p4.lrn;omega,fun c ls b hc=>(p2.cls c ls b hc).1,?_⟩
    have:=hL.ci.phase
    unfold PhaseOk at this
    rw[p1.phase]
    exact this
  · obtain ⟨hk, C, hL, he, hs⟩ := live hI hbr
    obtain⟨p1,p2,p3,p4,p5,p6⟩:=live_prop hL (by omega) hp
    obtain⟨h,k1,_,l,k2,k3⟩:=p6 _ rfl
    have hbr1:=p1.broken.trans hbr
    refine .inl ⟨rfl,?_⟩
    rw[failV_no hbr1]
    obtain⟨⟨⟨hz,hv,hli,hlm⟩,g2,g3,g4,g5⟩,t1,t2,t3⟩:=p3
    refine⟨rfl,⟨⟨⟨⟨hz.small,hz.w,hz.value,hz.level,hz.why,hz.heat,hz.phase,hz.trail,hz.limits⟩,hv,hli,hlm⟩,g2,g3,g4,g5⟩,t1,t2,t3⟩,hl,?_,?_,fun σ hσ=>?_⟩
    · show(List.length (_++[_]))≤_
      rw[List.length_append]
      have:=p4.trc
      simp;omega
    · show Sv.many _≤_
      have:=p4.many
      dsimp only
      omega
    · obtain ⟨ls, b, q1, q2, q3, q4⟩ := k2
      obtain⟨y,hy,hs⟩:=k1.imp σ hσ _ ls b q1
      obtain⟨i,e⟩:=mem_at.1 (q3 y hy)
      refine hs.neg (p2.zero (k1.imp σ hσ) i (-y) e ?_)
      have:=p2.lev i _ e
      unfold lv
      rw[this,hl];rfl
  · rename_i k v c v1
    obtain⟨hkm,C,hL,he,hs⟩:=live hI hbr
    obtain⟨p1,p2,p3,p4,p5,p6⟩:=live_prop hL (by omega) hp
    obtain⟨h,k1,_,l,k2,k3⟩:=p6 _ rfl
    obtain⟨r,r1,r2⟩:=learn_first p2 hl k2 k3
    obtain⟨z1,z2,z3,z4⟩:=k1.zero fun q=>absurd q hl
    have hnew:C.length+1≤3 ^ n - 1:=by
      have hlist:=r2.list p2
      have hnd:(code (learnL v1 r) n::C).Nodup:=by
        rw[List.nodup_cons]
        refine⟨fun q=>?_,p4.nd⟩
        obtain⟨_,_,c',ls,b,q1,q2⟩:=p4.mem _ q
        exact r2.fresh k1 hl q1 q2
      have:=nodup_len hnd (n:=3 ^ n - 1) fun x hx=>by
        rcases List.mem_cons.1 hx with e | e
        · rw[e]
          have hm:r.hd∈learnL v1 r:=(hlist.mem _).2 (.inl rfl)
          have:=code_pos hm (hlist.ok.1 _ hm)
          have:=code_lt (learnL v1 r) n
          omega
        · obtain ⟨q1, q2, _⟩ := p4.mem x e
          omega
      simpa using this
    refine .inr (.inr ⟨rfl,C,⟨?_,z1,z3,z4,p4.back 0⟩,z2,by omega,by omega⟩)
    obtain⟨ph,va,wh,tr,li,hd,e,_⟩:=backV_eq v1 0
    rw[e]
    exact p1.broken.trans hbr
  · rename_i k v c v1
    obtain⟨hkm,C,hL,he,hs⟩:=live hI hbr
    obtain⟨p1,p2,p3,p4,p5,p6⟩:=live_prop hL (by omega) hp
    obtain⟨h,k1,_,l,k2,k3⟩:=p6 _ rfl
    obtain⟨r,r1,r2⟩:=learn_first p2 hl k2 k3
    have hlist:=r2.list p2
    have hsm:=p2.inv.fit.siz
    have hlevb:0≤r.lev∧r.lev<(v1.limits.length:Int):=by
      have hpos:0<v1.limits.length:=List.length_pos_iff.2 hl
      rcases r2.lev.2 with⟨_,e⟩ | ⟨q,hq,e⟩
      · omega
      · have:=r2.lits q hq;omega
    refine⟨r,r1,hlist.ok,hlevb.1,by have:=hsm.limits;have:=hsm.small;omega,fun hh cn hhl hcn=>?_⟩
    have hiw:Inv1 n (heatV (manyV v1) hh):=p2.inv.many.heat (v:=manyV v1) hhl
    have kw:CI n F h (heatV (manyV v1) hh):=k1.of hiw rfl rfl rfl rfl rfl rfl rfl
    have hLw:Learned (heatV (manyV v1) hh) r:=⟨r2.uip,r2.lits,r2.nd,r2.lev,r2.imp⟩
    have eL:learnL (heatV (manyV v1) hh) r=learnL v1 r:=rfl
    obtain⟨g1,g2,g3,g4,g5⟩:=keep_ci kw hl hLw (c:=cn) hcn
    rw[eL]at g1 g2 g3
    obtain⟨ph,va,wh,tr,li,hd,e,_⟩:=backV_eq (heatV (manyV v1) hh) r.lev.toNat
    have hcodnew:code (learnL v1 r) n ∉ C:=fun q=>by
      obtain⟨_,_,c',ls,b,q1,q2⟩:=p4.mem _ q
      exact r2.fresh k1 hl q1 q2
    have hm:r.hd∈learnL v1 r:=(hlist.mem _).2 (.inl rfl)
    generalize hvb:backV (heatV (manyV v1) hh) r.lev.toNat=vb at *
    have ecl:vb.cl=v1.cl:=by rw[e];rfl
    have emany:vb.many=wrapA .i64 (v1.many+1):=by rw[e];rfl
    have elrn:vb.learned=v1.learned:=by rw[e];rfl
    have etrc:vb.trace=v1.trace:=by rw[e];rfl
    have ewat:vb.watches=v1.watches:=by rw[e];rfl
    have eroom:vb.room=v1.room:=by rw[e];rfl
    have ebrk:vb.broken=v1.broken:=by rw[e];rfl
    have kcl:(keepV vb cn (learnL v1 r)).cl=clPut vb.cl cn (learnL v1 r,(true,false)):=by unfold keepV;split<;>rfl
    have kmany:(keepV vb cn (learnL v1 r)).many=vb.many:=by unfold keepV;split<;>rfl
    have klrn:(keepV vb cn (learnL v1 r)).learned.length≤vb.learned.length+1:=by
      unfold keepV
      split
      · show(vb.learned++[cn]).length≤_
        rw[List.length_append];simp
      · show vb.learned.length≤_
        omega
    have ktrc:(keepV vb cn (learnL v1 r)).trace.length=vb.trace.length+1:=by
      unfold keepV
      split<;>(show(vb.trace++[_]).length=_;rw[List.length_append];rfl)
    have kwat:(keepV vb cn (learnL v1 r)).watches=putW vb.watches cn (learnL v1 r):=by unfold keepV putW;split<;>rfl
    have kroom:(keepV vb cn (learnL v1 r)).room=vb.room:=by unfold keepV;split<;>rfl
    have kbrk:(keepV vb cn (learnL v1 r)).broken=vb.broken:=by unfold keepV;split<;>rfl
    refine⟨by omega,.inl ⟨code (learnL v1 r) n::C,⟨by rw[kbrk,ebrk];exact p1.broken.trans hbr,g1,g2,g3,?_⟩,by rw[List.length_cons];omega⟩⟩
    refine⟨by rw[List.nodup_cons];exact⟨hcodnew,p4.nd⟩,fun x hx=>?_,?_,?_,?_,?_,by rw[kroom,eroom];exact p4.room⟩
    · rcases List.mem_cons.1 hx with q | q
      · rw[q]
        exact⟨code_pos hm (hlist.ok.1 _ hm),code_lt _ n,cn,learnL v1 r,(true,false),by rw[kcl];exact clPut_same _ _ _,rfl⟩
      · obtain⟨q1,q2,c',ls,b,q3,q4⟩:=p4.mem x q
        refine⟨q1,q2,c',ls,b,?_,q4⟩
        rw[kcl,ecl]
        unfold clPut
        rw[if_neg fun z=>by rw[z,hcn]at q3;cases q3]
        exact q3
    · rw[kmany,emany,List.length_cons,p4.many,wrap_i64 ⟨by omega,by omega⟩]
      omega
    · rw[List.length_cons]
      have:=p4.lrn
      rw[elrn]at klrn
      omega
    · rw[ktrc,etrc,List.length_cons]
      have:=p4.trc
      omega
    · rw[kwat,List.length_cons,ewat]
      have:=putW_tot v1.watches cn (learnL v1 r)
      have:=p4.tot
      omega
  · rename_i k v v1
    obtain⟨hkm,C,hL,he,hs⟩:=live hI hbr
    obtain⟨p1,p2,p3,p4,p5,p6⟩:=live_prop hL (by omega) hp
    obtain⟨k1,k2⟩:=p5 rfl
    have kw:CI n F v1.trail.length (heatV v1 h):=k1.of (p2.inv.heat hh) rfl rfl rfl rfl rfl rfl rfl
    obtain⟨z1,z2,z3,z4⟩:=kw.zero fun _=>⟨by show v1.trail.length=v1.head.toNat;omega,by show 0≤v1.head;omega,by show v1.head≤(v1.trail.length:Int);omega⟩
    obtain⟨ph,va,wh,tr,li,hd,e,_⟩:=backV_eq (heatV v1 h) 0
    have hc:Cod n A (heatV v1 h) C:=p4.of rfl rfl rfl rfl rfl rfl
    refine⟨⟨hkm,.inl ⟨C,⟨?_,z1,z3,z4,hc.back 0⟩,he⟩⟩,by rw[e];rfl⟩
    rw[e]
    exact p1.broken.trans hbr
  · rename_i k v v1
    obtain⟨hkm,C,hL,he,hs⟩:=live hI hbr
    obtain⟨p1,p2,p3,p4,p5,p6⟩:=live_prop hL (by omega) hp
    obtain⟨k1,k2⟩:=p5 rfl
    have kw:CI n F v1.trail.length { v1 with model:=v1.value }:=k1.of (p2.inv.model _) rfl rfl rfl rfl rfl rfl rfl
    obtain⟨z1,z2,z3,z4⟩:=kw.zero fun _=>⟨by show v1.trail.length=v1.head.toNat;omega,by show 0≤v1.head;omega,by show v1.head≤(v1.trail.length:Int);omega⟩
    obtain⟨ph,va,wh,tr,li,hd,e,_⟩:=backV_eq { v1 with model:=v1.value } 0
    have hc:Cod n A { v1 with model:=v1.value } C:=p4.of rfl rfl rfl rfl rfl rfl
    have em:(modelV v1).model=v1.value:=by unfold modelV;rw[e]
    refine .inr (.inl ⟨rfl,C,⟨?_,z1,z3,z4,hc.back 0⟩,z2,by omega,?_,?_⟩)
    · unfold modelV
      rw[e]
      exact p1.broken.trans hbr
    · rw[em];exact p2.inv.fit.siz.value
    · rw[em];exact k1.models hF hall
  · rename_i k v v1 b
    obtain⟨hkm,C,hL,he,hs⟩:=live hI hbr
    obtain⟨p1,p2,p3,p4,p5,p6⟩:=live_prop hL (by omega) hp
    obtain⟨k1,k2⟩:=p5 rfl
    obtain⟨g1,g2⟩:=k1.guess h1 h2 h3
    have ehd:(guessV v1 b).head=v1.head:=rfl
    refine⟨hkm,.inl ⟨C,⟨p1.broken.trans hbr,?_,by rw[ehd];omega,by rw[ehd,g2];omega,p4.of rfl rfl rfl rfl rfl rfl⟩,he⟩⟩
    rw[ehd,show v1.head.toNat=v1.trail.length by omega]
    exact g1
end
end Go.Proofs.Ytilhhmkdcoajnaa.Am
