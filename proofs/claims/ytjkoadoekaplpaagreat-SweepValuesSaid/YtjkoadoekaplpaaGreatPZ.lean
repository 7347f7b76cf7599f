import Derived.Test.YtjkoadoekaplpaaGreatPV
namespace Go.Proofs.YtjkoadoekaplpaaGreat
open Go Go.Proofs.YtjkoadoekaplpaaGreat.R
set_option linter.unusedVariables false
set_option linter.unusedSimpArgs false
section
def ansL(v b:Int)(m:Nat)(r:Bool×List Int×List (List Int)×Nat):Ans:=if(r.2.2.2:Int)<=b/\m+r.2.2.1.length<=20000 then(ansR v r,0) else(ans0,55)
theorem bPd{v:Int}{A:List Int}:∀(n:Nat) (L:List (List Int)) (t s:List Int) (log:List (List Int)),log.length<=(solA v A n L t s log).2.2.1.length
 |0,L,t,s,log=>Nat.le_refl _
 |n+1,L,t,s,log=>by
  unfold solA
  split
  .split
   .simp
   .refine Nat.le_trans ?_ (bPd n _ _ _ _)
    simp
  .split
   .split
    .simp
    .exact bPd n _ _ _ _
   .split
    .exact Nat.le_refl _
    .exact bPd n _ _ _ _
theorem sol_log{v:Int}:∀(n:Nat) (L:List (List Int)) (t s:List Int) (log:List (List Int)),log.length<=(sol v n L t s log).2.2.1.length:=fun n L t s log=>by
 rw[<-bXp];exact bPd n L t s log
section
variable {v k:Int} {A H:List Int} {L log:List (List Int)} {t s:List Int}
theorem bFq{bo:Bool}{m:List Bool}{co c:List Int}(h:L.length=20000):bA4 v A H L v t s bo m co log k c=some (55,solT v A H L t s bo m co log k):=by
 rw[bA4.eq,ce,if_pos (by omega)]
theorem bR0(hA:okA v A [])(hL:okL v L)(hn:L.length=20000)(hc:bFw v L A=true){m:List Bool}{co:List Int}{bo:Bool}:
  bA0 v A H L v t s bo m co log k 2=some (55,solT v A H L t s bo m co log k):=by
 rw[bA0.eq,ce,if_pos rfl,bC7 hA hL (by omega) hc,Option.bind_some]
 dsimp only
 rw[cn,if_pos rfl,bFq hn,Option.bind_some]
theorem bRz(h:okA v t s)(hL:okL v L)(hn:L.length=20000)(hlog:log.length<=20000)(hk:0<=k/\k<=1000000)(hc:bFw v L (decs t s)=true){c:List Int}(hce:c=lrnC v L (decs t s))(hcok:okC v c)
  (hb:c≠[]->∃t' s',bHc v t s c=((v,(t',s')),0)):∃(on:Bool) (st:SolT),bAr v A H L v t s false [] [] log k=some (on,55,st):=by
 have hv:=h.vars
 have hsh:=h.short
 have ht64:∀l∈t,in64 l:=fun l hl=>by have:=h.lits l hl;omega
 have g:=bN0.loop (A:=A) (H:=H) (L:=L) (log:=log) (k:=k) (b:=false) (m:=[]) (co:=[]) (o1:=[]) h s.length 0 (by omega)
 rw[show((0:Nat):Int)=0 from rfl]at g
 have e0:bAr v A H L v t s false [] [] log k=_:=(bAr.eq ..).trans g
 have hD:=bJx h
 have hdl:(decs t s).length=s.length:=by simp[decs]
 rw[e0,bAr.l0_eq,cd,if_neg (by omega),cd]
 by_cases hs:s.length=0
 .rw[if_neg (by omega),ce,if_pos (by simp),bFq hn,Option.bind_some]
  exact⟨_,_,rfl⟩
 .rw[if_pos (by omega),bC7 hD hL (by omega) hc,Option.bind_some,<-hce]
  dsimp only
  rw[cn,if_pos rfl,ce]
  by_cases hc0:c=[]
  .rw[if_pos (by rw[hc0];rfl),bFq hn,Option.bind_some]
   exact⟨_,_,rfl⟩
  .have hcl:¬(c.length:Int)=0:=fun e=>hc0 (List.eq_nil_of_length_eq_zero (by omega))
   have hc64:∀l∈c,in64 l:=fun l hl=>by have:=hcok.1 l hl;omega
   have hcs:=hcok.short hv
   have hw:IntKind.wrap .i64 (k+1)=k+1:=by rw[wr]<;>omega
   obtain⟨t',s',e1⟩:=hb hc0
   rw[if_neg hcl,bL9 (by omega) (by omega) ht64 (by omega) hc64,Option.bind_some,e1]
   dsimp only
   rw[cn,if_pos rfl,hw,bFq hn,Option.bind_some]
   exact⟨_,_,rfl⟩
theorem bSu(h:okA v t s)(hL:okL v L)(hn:L.length=20000)(hc:bFw v L (decs t s)=true):∃(on:Bool) (st:Int×List (List Int)×(Int×List Int×List Int)×Bool×List Bool×List Int×List (List Int)×Int),bAv v L v t s false [] [] log k=some (on,55,st):=by
 have hv:=h.vars
 have hsh:=h.short
 have g:=bQi.loop (L:=L) (log:=log) (k:=k) (b:=false) (m:=[]) (co:=[]) h s.length 0 (by omega)
 rw[show((0:Nat):Int)=0 from rfl]at g
 have e0:bAv v L v t s false [] [] log k=_:=(bAv.eq ..).trans g
 have hD:=bJx h
 have hdl:(decs t s).length=s.length:=by simp[decs]
 rw[e0,bAv.l0_eq,cd,if_neg (by omega),cd]
 by_cases hs:s.length=0
 .rw[if_neg (by omega),ce,if_pos (by omega)]
  exact⟨_,_,rfl⟩
 .rw[if_pos (by omega),bC7 hD hL (by omega) hc,Option.bind_some]
  dsimp only
  rw[cn,if_pos rfl,ce,if_pos (by omega)]
  exact⟨_,_,rfl⟩
end
theorem bAh.loopL{v b:Int}{A:List Int}(hA:okA v A []){L0:List (List Int)}{b0:Bool}{b1:Int}{o2:List Bool}{o3:List Int}{o4:List (List Int)}:∀(n:Nat) {t s:List Int} {log:List (List Int)},InvA v A L0 t s log->meas v t s<n->(log.length:Int)<=b->L0.length+log.length<=20000 ->
  bAh.l1 b b0 b1 v A v false (log.length:Int) o2 o3 o4 (allL v.toNat) (L0++log) t s [] [] log=some (ansL v b L0.length (solA v A n (L0++log) t s log))
 |0,t,s,log,h,hn,hb,hm=>by omega
 |n+1,t,s,log,h,hn,hb,hm=>by
  have hv:=h.a.vars
  have hsh:=h.a.short
  have hAs:=hA.short
  have hP:=h.prop.1
  have hlen:(L0++log).length=L0.length+log.length:=List.length_append
  have hlog:log.length<=20000:=by omega
  have ht64:∀l∈t,in64 l:=fun l hl=>by have:=h.a.lits l hl;omega
  have hr:∀c∈L0++log,c.length<=140737488351232/\∀x∈c,in64 x:=fun c hc=>⟨by have:=(h.ok c hc).len hv;omega,fun x hx=>bVq hv ((h.ok c hc).1 x hx)⟩
  have hrun:runC v t s (L0++log)=((v,(bAk (L0++log) (v+1).toNat t).1,s),(bAk (L0++log) (v+1).toNat t).2,0):=by
   unfold runC
   rw[if_pos h.a,if_neg (by omega),if_pos h.ok]
  rw[bAh.l1_eq,bNk (by omega) (by omega) ht64 (by omega) hr,Option.bind_some,hrun]
  dsimp only
  rw[cn,if_pos rfl,cd]
  unfold solA
  by_cases hat:0<=(bAk (L0++log) (v+1).toNat t).2
  .rw[if_pos hat,if_pos hat]
   obtain⟨f1,f2,f3⟩:=h.fail hat rfl
   have hcf:=h.conf hat
   have hlg:∀(n:Nat) (t' s':List Int),log.length+1<=(solA v A n (L0++log++[lrnC v (L0++log) (decs (bAk (L0++log) (v+1).toNat t).1 s)]) t' s' (log++[lrnC v (L0++log) (decs (bAk (L0++log) (v+1).toNat t).1 s)])).2.2.1.length:=fun n t' s'=>by
    have:=bPd (v:=v) (A:=A) n (L0++log++[lrnC v (L0++log) (decs (bAk (L0++log) (v+1).toNat t).1 s)]) t' s' (log++[lrnC v (L0++log) (decs (bAk (L0++log) (v+1).toNat t).1 s)])
    rw[List.length_append (bs:=[_]),List.length_singleton]at this
    exact this
   by_cases hfull:(L0++log).length=20000
   .obtain⟨on,st,e⟩:=bRz (A:=A) (H:=allL v.toNat) (log:=log) (k:=(log.length:Int)) hP.a h.ok hfull hlog ⟨by omega,by omega⟩ hcf rfl f1 (fun hne=>by obtain⟨t',s',e1,_⟩:=f3 hne;exact⟨t',s',e1⟩)
    rw[e,Option.bind_some]
    dsimp only
    rw[ce,if_neg (by omega),cn,if_neg (by omega)]
    unfold ansL
    by_cases hc:lrnC v (L0++log) (decs (bAk (L0++log) (v+1).toNat t).1 s)=[]
    .rw[if_pos hc,if_neg (by simp only[List.length_append,List.length_singleton];omega)];rfl
    .rw[if_neg hc,if_neg (by have:=hlg n (bHc v (bAk (L0++log) (v+1).toNat t).1 s (lrnC v (L0++log) (decs (bAk (L0++log) (v+1).toNat t).1 s))).1.2.1 (bHc v (bAk (L0++log) (v+1).toNat t).1 s (lrnC v (L0++log) (decs (bAk (L0++log) (v+1).toNat t).1 s))).1.2.2;omega)];rfl
   have hll:(L0++log).length<20000:=by omega
   by_cases hc:lrnC v (L0++log) (decs (bAk (L0++log) (v+1).toNat t).1 s)=[]
   .rw[bNh (t':=[]) (s':=[]) hP.a h.ok hll hlog ⟨by omega,by omega⟩ hcf rfl f1 (fun hne=>absurd hc hne),if_pos hc,if_pos hc,Option.bind_some]
    dsimp only
    rw[ce,if_pos rfl,cd,if_neg (by omega),cn,if_pos rfl,cnot,cf]
    unfold ansL ansR
    rw[if_pos ⟨hb,by simp only[List.length_append,List.length_singleton];omega⟩]
    rfl
   .obtain⟨t',s',e1,e2,e3⟩:=f3 hc
    rw[bNh hP.a h.ok hll hlog ⟨by omega,by omega⟩ hcf rfl f1 (fun _=>e1),if_neg hc,if_neg hc,Option.bind_some,e1]
    dsimp only
    rw[ce,if_pos rfl,cd]
    by_cases hov:(log.length:Int)+1>b
    .rw[if_pos hov,cn,if_neg (by omega)]
     unfold ansL
     have:=bPe (v:=v) (A:=A) n (L0++log++[lrnC v (L0++log) (decs (bAk (L0++log) (v+1).toNat t).1 s)]) t' s' (log++[lrnC v (L0++log) (decs (bAk (L0++log) (v+1).toNat t).1 s)])
     rw[List.length_append (bs:=[_]),List.length_singleton]at this
     rw[if_neg (by omega)]
     rfl
    .rw[if_neg hov,cn,if_pos rfl,cnot,ct]
     have:=bAh.loopL (b:=b) (b0:=b0) (b1:=b1) (o2:=o2) (o3:=o3) (o4:=o4) hA n e2 (by omega) (by rw[List.length_append,List.length_singleton];omega) (by rw[List.length_append,List.length_singleton];omega)
     rw[<-List.append_assoc,List.length_append (bs:=[_]),List.length_singleton,Int.natCast_add]at this
     exact this
  .rw[if_neg hat,if_neg hat]
   cases hw:bM3 A (bAk (L0++log) (v+1).toNat t).1 with
   |some l=>
    obtain⟨w1,w2⟩:=bV7 hw
    dsimp only
    by_cases h0:isS (bAk (L0++log) (v+1).toNat t).1 l=0
    .rw[if_pos h0,bY3 hP.a hA.lits (by omega) hw h0,Option.bind_some]
     have hcf:=h.under hA rfl w1 h0
     dsimp only
     rw[cd,if_pos (by omega)]
     by_cases hfull:(L0++log).length=20000
     .rw[bR0 hA h.ok hfull hcf,Option.bind_some]
      dsimp only
      rw[cn,if_neg (by omega)]
      unfold ansL
      rw[if_neg (by simp only[List.length_append,List.length_singleton];omega)]
      rfl
     have hll:(L0++log).length<20000:=by omega
     rw[bV1 hA h.ok hll hlog hcf,Option.bind_some]
     dsimp only
     rw[cn,if_pos rfl]
     unfold ansL ansR
     rw[if_pos ⟨hb,by simp only[List.length_append,List.length_singleton];omega⟩]
     rfl
    .rw[if_neg h0,bY5 hP.a hA.lits (by omega) hw h0,Option.bind_some]
     have h2:isS (bAk (L0++log) (v+1).toNat t).1 l=2:=by rcases bDh (bAk (L0++log) (v+1).toNat t).1 l with h|h|h<;>omega
     obtain⟨e1,e2⟩:=h.choose rfl (hA.lits l w1) h2 (.inl w1)
     dsimp only
     rw[cd,if_neg (by omega)]
     exact bAh.loopL hA n e1 (by omega) hb hm
   |none=>
    have hall:=bV8 hP.a hw
    dsimp only
    by_cases hl:lf v (bAk (L0++log) (v+1).toNat t).1=0
    .rw[if_pos hl,bY4 hP.a hA.lits (by omega) hw hl,Option.bind_some]
     dsimp only
     rw[cd,if_pos (by omega),bV2 hP.a,Option.bind_some]
     dsimp only
     rw[cn,if_pos rfl]
     unfold ansL ansR
     rw[if_pos ⟨hb,hm⟩]
     rfl
    .rw[if_neg hl,bY2 hP.a hA.lits (by omega) hw hl,Option.bind_some]
     obtain⟨x1,x2,x3,x4⟩:=(bNv (v:=v) (by omega) (bAk (L0++log) (v+1).toNat t).1).resolve_left fun h=>hl h.1
     have hnone:isS (bAk (L0++log) (v+1).toNat t).1 (2*lf v (bAk (L0++log) (v+1).toNat t).1+1)=2:=by
      rw[bGe]at x3 ⊢
      intro a ha he
      exact x3 a ha (by omega)
     obtain⟨e1,e2⟩:=h.choose rfl (x:=2*lf v (bAk (L0++log) (v+1).toNat t).1+1) (by omega) hnone (.inr ⟨_,rfl,x1,x2,x4,hall⟩)
     dsimp only
     rw[cd,if_neg (by omega)]
     exact bAh.loopL hA n e1 (by omega) hb hm
theorem bA9.loopL{v b:Int}{L0:List (List Int)}{b0:Bool}{b1:Int}{o2:List Bool}{o3:List Int}{o4:List (List Int)}:∀(n:Nat) {t s:List Int} {log:List (List Int)},Inv v L0 t s log->meas v t s<n->(log.length:Int)<=b->L0.length+log.length<=20000 ->
  bA9.l1 b (allL v.toNat) b0 b1 v v false (log.length:Int) o2 o3 o4 (L0++log) t s [] [] log=some (ansL v b L0.length (sol v n (L0++log) t s log))
 |0,t,s,log,h,hn,hb,hm=>by omega
 |n+1,t,s,log,h,hn,hb,hm=>by
  have hv:=h.a.vars
  have hsh:=h.a.short
  have hP:=h.prop.1
  have hlen:(L0++log).length=L0.length+log.length:=List.length_append
  have ht64:∀l∈t,in64 l:=fun l hl=>by have:=h.a.lits l hl;omega
  have hr:∀c∈L0++log,c.length<=140737488351232/\∀x∈c,in64 x:=fun c hc=>⟨by have:=(h.ok c hc).len hv;omega,fun x hx=>bVq hv ((h.ok c hc).1 x hx)⟩
  have hrun:runC v t s (L0++log)=((v,(bAk (L0++log) (v+1).toNat t).1,s),(bAk (L0++log) (v+1).toNat t).2,0):=by
   unfold runC
   rw[if_pos h.a,if_neg (by omega),if_pos h.ok]
  rw[bA9.l1_eq,bNk (by omega) (by omega) ht64 (by omega) hr,Option.bind_some,hrun]
  dsimp only
  rw[cn,if_pos rfl,cd]
  unfold sol
  by_cases hat:0<=(bAk (L0++log) (v+1).toNat t).2
  .rw[if_pos hat,if_pos hat]
   obtain⟨f1,f2,f3⟩:=h.fail hat rfl
   have hcf:=h.conf hat
   have hlg:∀(n:Nat) (t' s':List Int),log.length+1<=(sol v n (L0++log++[lrnC v (L0++log) (decs (bAk (L0++log) (v+1).toNat t).1 s)]) t' s' (log++[lrnC v (L0++log) (decs (bAk (L0++log) (v+1).toNat t).1 s)])).2.2.1.length:=fun n t' s'=>by
    have:=sol_log (v:=v) n (L0++log++[lrnC v (L0++log) (decs (bAk (L0++log) (v+1).toNat t).1 s)]) t' s' (log++[lrnC v (L0++log) (decs (bAk (L0++log) (v+1).toNat t).1 s)])
    rw[List.length_append (bs:=[_]),List.length_singleton]at this
    exact this
   by_cases hfull:(L0++log).length=20000
   .obtain⟨on,st,e⟩:=bSu (log:=log) (k:=(log.length:Int)) hP.a h.ok hfull hcf
    rw[e,Option.bind_some]
    dsimp only
    rw[ce,if_neg (by omega),cn,if_neg (by omega)]
    unfold ansL
    by_cases hc:lrnC v (L0++log) (decs (bAk (L0++log) (v+1).toNat t).1 s)=[]
    .rw[if_pos hc,if_neg (by simp only[List.length_append,List.length_singleton];omega)];rfl
    .rw[if_neg hc,if_neg (by have:=hlg n (bHc v (bAk (L0++log) (v+1).toNat t).1 s (lrnC v (L0++log) (decs (bAk (L0++log) (v+1).toNat t).1 s))).1.2.1 (bHc v (bAk (L0++log) (v+1).toNat t).1 s (lrnC v (L0++log) (decs (bAk (L0++log) (v+1).toNat t).1 s))).1.2.2;omega)];rfl
   have hll:(L0++log).length<20000:=by omega
   by_cases hc:lrnC v (L0++log) (decs (bAk (L0++log) (v+1).toNat t).1 s)=[]
   .rw[bPc (t':=[]) (s':=[]) hP.a h.ok hll (by rw[List.length_append]at hll;omega) ⟨by omega,by omega⟩ hcf rfl f1 (fun hne=>absurd hc hne),if_pos hc,if_pos hc,Option.bind_some]
    dsimp only
    rw[ce,if_pos rfl,cd,if_neg (by omega),cn,if_pos rfl,cnot,cf]
    unfold ansL ansR
    rw[if_pos ⟨hb,by simp only[List.length_append,List.length_singleton];omega⟩]
    rfl
   .obtain⟨t',s',e1,e2,e3⟩:=f3 hc
    rw[bPc hP.a h.ok hll (by rw[List.length_append]at hll;omega) ⟨by omega,by omega⟩ hcf rfl f1 (fun _=>e1),if_neg hc,if_neg hc,Option.bind_some,e1]
    dsimp only
    rw[ce,if_pos rfl,cd]
    by_cases hov:(log.length:Int)+1>b
    .rw[if_pos hov,cn,if_neg (by omega)]
     unfold ansL
     have:=bXn (v:=v) n (L0++log++[lrnC v (L0++log) (decs (bAk (L0++log) (v+1).toNat t).1 s)]) t' s' (log++[lrnC v (L0++log) (decs (bAk (L0++log) (v+1).toNat t).1 s)])
     rw[List.length_append (bs:=[_]),List.length_singleton]at this
     rw[if_neg (by omega)]
     rfl
    .rw[if_neg hov,cn,if_pos rfl,cnot,ct]
     have:=bA9.loopL (b:=b) (b0:=b0) (b1:=b1) (o2:=o2) (o3:=o3) (o4:=o4) n e2 (by omega) (by rw[List.length_append,List.length_singleton];omega) (by rw[List.length_append,List.length_singleton];omega)
     rw[<-List.append_assoc,List.length_append (bs:=[_]),List.length_singleton,Int.natCast_add]at this
     exact this
  .rw[if_neg hat,if_neg hat,bSv hP.a]
   by_cases hl:lf v (bAk (L0++log) (v+1).toNat t).1=0
   .rw[if_pos hl,if_pos hl,Option.bind_some]
    dsimp only
    rw[cnot,cf,bVm hP.a,Option.bind_some]
    unfold ansL ansR
    rw[if_pos ⟨hb,hm⟩]
    rfl
   .obtain⟨e1,e2⟩:=h.choose hl
    rw[if_neg hl,if_neg hl,Option.bind_some]
    dsimp only
    rw[cnot,ct]
    exact bA9.loopL n e1 (by omega) hb hm
section
variable {v b:Int} {A:List Int} {L:List (List Int)}
theorem bQ4(hA:okA v A [])(hb:0<=b/\b<=100000)(hL:okL v L)(hn:L.length<=20000):bAh v L A b=some (ansL v b L.length (solAR v A L)):=by
 have hv:=hA.vars
 have g0:=bAh.loop0 (b:=b) (b0:=false) (b0_1:=0) (b1:=v) (b1_1:=A) (b1_2:=v) (b1_3:=false) (b1_4:=0) (o2:=[]) (o3:=[]) (o4:=[]) (o6:=L) (o7:=[]) (o8:=[]) (o9:=[]) (o10:=[]) (o11:=[]) hv v.toNat 0 (by omega)
 have g1:=bAh.loopL (b:=b) hA (b0:=false) (b1:=0) (o2:=[]) (o3:=[]) (o4:=[]) (meas v [] []+1) (invA0 hv hL) (Nat.lt_succ_self _) (by simpa using hb.1) (by simpa using hn)
 rw[List.append_nil]at g1
 rw[bAh.eq,bKh (by omega),Option.bind_some]
 exact g0.trans g1
theorem bXm(hv:okV v)(hb:0<=b/\b<=100000)(hL:okL v L)(hn:L.length<=20000):bA9 v L b=some (ansL v b L.length (solR v L)):=by
 have hr:∀c∈L,c.length<=140737488351232/\∀x∈c,in64 x:=fun c hc=>⟨by have:=(hL c hc).len hv;omega,fun x hx=>bVq hv ((hL c hc).1 x hx)⟩
 have g0:=bA9.loop0 (b:=b) (b0:=false) (b1:=0) (b2:=v) (b3:=v) (b1_2:=false) (b4:=0) (o3:=[]) (o4:=[]) (o5:=[]) (o6:=L) (o7:=[]) (o11:=[]) (o8:=[]) (o9:=[]) (o10:=[]) hv v.toNat 0 (by omega)
 have g1:=bA9.loopL (b:=b) (b0:=false) (b1:=0) (o2:=[]) (o3:=[]) (o4:=[]) (meas v [] []+1) (inv0 hv hL) (Nat.lt_succ_self _) (by simpa using hb.1) (by simpa using hn)
 rw[List.append_nil]at g1
 rw[bA9.eq,cd,if_neg (by omega),cd,if_neg (by omega),cd,if_neg (by omega),cd,if_neg (by omega),bVn hv (by omega) hr,Option.bind_some,if_neg (by omega),if_pos hL,cn,if_pos rfl,bKh (by omega),Option.bind_some]
 exact g0.trans g1
theorem bVb(hv:okV v)(hL:okL v L)(hA:∀a∈A,isLit v a)(hn:A.length+L.length<=20000):∃r:Bool×Int,bBn v L A=some r:=by
 have g:=bBn.loop (v:=v) (L:=L) (A:=A) (by omega) A.length 0 (by omega)
 rw[show((0:Nat):Int)=0 from rfl,List.take_zero,show bHk []=[] from rfl]at g
 have hul:(bHk A).length=A.length:=by simp[bHk]
 have hok:=okL_asm hL hA
 rw[bBn.eq,g,bBn.l0_eq,cd,if_neg (by omega),bCi (by omega),Option.bind_some,bXm hv (by omega) hok (by rw[List.length_append,hul];exact hn),Option.bind_some,ce]
 split
 .exact⟨_,rfl⟩
 .exact⟨_,rfl⟩
theorem bBo.loopL(hA:okA v A [])(hL:okL v L)(hlim:A.length+L.length<=20000):∀(n i:Nat) {o:List Int},i+n=A.length->o.Sublist A->(∀x∈A.drop i,x∈o) ->
  ∃r:List Int×Int,bBo.l0 v L A (A.length:Int) (i:Int) o=some r
 |0,i,o,hi,ho,hm=>by
  rw[bBo.l0_eq,cd,if_neg (by omega)]
  exact⟨_,rfl⟩
 |n+1,i,o,hi,ho,hm=>by
  have hv:=hA.vars
  have hlt:i<A.length:=by omega
  have hs:=hA.short
  have hol:=ho.length_le
  have hw:IntKind.wrap .i64 ((i:Int)+1)=((i+1:Nat):Int):=by rw[wr]<;>omega
  rw[drop_cons hlt]at hm
  have hd:A[i]∈o:=hm _ (List.mem_cons_self ..)
  obtain⟨k,e1,e2,e3⟩:=bF0.found (s:=o) (x:=A[i]) (by omega) o.length 0 (by omega) (by rw[List.drop_zero];exact hd)
  rw[show((0:Nat):Int)=0 from rfl]at e1
  rw[List.take_zero,List.drop_zero,List.nil_append]at e3
  have hwk:IntKind.wrap .i64 ((k:Int)+1)=((k+1:Nat):Int):=by rw[wr]<;>omega
  have hcut:cutl o (k:Int) ((k+1:Nat):Int)=some (rm A[i] o):=by
   unfold cutl LIM
   rw[if_pos ⟨by omega,by omega,by omega,by omega⟩,Int.toNat_natCast,Int.toNat_natCast,e3]
  have hsub:(rm A[i] o).Sublist A:=(cDr _ o).trans ho
  have hsl:=hsub.length_le
  have hnd:=hA.nodup
  rw[<-List.take_append_drop i A,List.nodup_append,drop_cons hlt,List.nodup_cons]at hnd
  obtain⟨r,hr⟩:=bVb hv hL (fun a ha=>hA.lits a (hsub.subset ha)) (A:=rm A[i] o) (by omega)
  rw[bBo.l0_eq,cd,if_pos (by omega),bCq hlt,Option.bind_some,bAj.eq,e1,Option.bind_some,bKh (by omega),Option.bind_some,hwk,hcut,Option.bind_some,hr,Option.bind_some,hw,cn]
  split
  .obtain⟨c,e⟩:=r
   cases c with
   |true=>
    rw[ct]
    exact bBo.loopL hA hL hlim n (i+1) (by omega) hsub (fun x hx=>cJr (hm x (List.mem_cons_of_mem _ hx)) (fun e=>hnd.2.1.1 (e▸hx)))
   |false=>
    rw[cf]
    exact bBo.loopL hA hL hlim n (i+1) (by omega) ho (fun x hx=>hm x (List.mem_cons_of_mem _ hx))
  .exact⟨_,rfl⟩
theorem bV3(hv:okV v)(hb:0<=b/\b<=100000)(hL:okL v L)(hn:A.length+L.length<=20000)(hA64:∀x∈A,in64 x):∃(x:Ansr) (e:Int),bGy v L A b=some (x,e) /\
  (e=0->okA v A []/\(x.1=false->∀W,¬bJh (bHk A++L) W)/\(x.1=true->∃W,W.length=v.toNat/\bJh (bHk A++L) W)):=by
 by_cases hA:okA v A []
 .have hR:=cMg hA hL
  rw[bGy.eq,bVd hA hb hL (by omega),Option.bind_some,cn,if_pos rfl,bQ4 hA hb hL (by omega),Option.bind_some]
  unfold ansL
  split
  .dsimp only
   rw[cn,if_pos rfl]
   unfold ansR
   cases hs:(solAR v A L).1 with
   |true=>exact⟨_,_,rfl,fun _=>⟨hA,(fun h=>by cases h),fun _=>by have:=(hR.sat hs).1;exact⟨_,this.1,this.2.1⟩⟩⟩
   |false=>
    obtain⟨r,hr⟩:=bBo.loopL hA hL hn A.length 0 (o:=A) (by omega) (List.Sublist.refl _) (fun x hx=>by rwa [List.drop_zero]at hx)
    rw[show((0:Nat):Int)=0 from rfl]at hr
    rw[cf,bBo.eq,bKh (by omega),Option.bind_some,hr,Option.bind_some,cn]
    split
    .exact⟨_,_,rfl,fun _=>⟨hA,fun _=>hR.none hv hA.lits hs,fun h=>by cases h⟩⟩
    .rename_i hne
     exact⟨_,_,rfl,fun h=>absurd h hne⟩
  .dsimp only
   rw[cn,if_neg (by omega)]
   exact⟨_,_,rfl,fun h=>by omega⟩
 .have:=bMk (v:=v) (b:=b) (L:=L) (A:=A) (by omega) (fun c hc=>⟨by have:=(hL c hc).len hv;omega,fun x hx=>bVq hv ((hL c hc).1 x hx)⟩) (by omega) hA64
  rw[if_neg (by omega),if_neg (by omega),if_neg (fun h=>hA h.2)]at this
  rw[bGy.eq,this,Option.bind_some,cn,if_neg (by omega)]
  exact⟨_,_,rfl,fun h=>by omega⟩
end
end
section
abbrev TP:Ty:=.pair (.int .i64) (.int .i64)
abbrev TC:Ty:=.pair (.int .i64) (.pair (.list TP) (.pair (.list TP) (.pair TL TL)))
structure bGi(I:Int)(Ls As:List (Int×Int))(Bs Cs:List Int):Prop where
 i:in64 I
 ls:Ls.length<=140737488351232/\∀x∈Ls,in64 x.1/\in64 x.2
 as_:As.length<=140737488351232/\∀x∈As,in64 x.1/\in64 x.2
 bs:Bs.length<=140737488351232/\∀x∈Bs,in64 x
 cs:Cs.length<=140737488351232/\∀x∈Cs,in64 x
theorem okTC{c:Int×List (Int×Int)×List (Int×Int)×List Int×List Int}(h:okD TC c):bGi c.1 c.2.1 c.2.2.1 c.2.2.2.1 c.2.2.2.2 where
 i:=wf64 h.1
 ls:=⟨h.2.1.1,fun x hx=>⟨wf64 (h.2.1.2 x hx).1,wf64 (h.2.1.2 x hx).2⟩⟩
 as_:=⟨h.2.2.1.1,fun x hx=>⟨wf64 (h.2.2.1.2 x hx).1,wf64 (h.2.2.1.2 x hx).2⟩⟩
 bs:=okTL h.2.2.2.1
 cs:=okTL h.2.2.2.2
abbrev litN(n l:Int):Prop:=0<=l/\l/2<=n
abbrev latN(n:Int)(x:Int×Int):Prop:=litN n x.1/\0<=x.2/\x.2<=2
def okG:Int->List (Int×Int)->Bool
 |_,[]=>true
 |n,x::r=>decide (0<=x.2)&&decide (x.2<=x.1)&&decide (x.1/2<n)&&okG (n+1) r
def few(I:Int)(Ls As:List (Int×Int))(Bs Cs:List Int):Prop:=I<=1000/\I+Ls.length+As.length<=1000/\Bs.length<=100/\Cs.length<=100
instance (I:Int)(Ls As:List (Int×Int))(Bs Cs:List Int):Decidable (few I Ls As Bs Cs):=by unfold few;infer_instance
def size(I:Int)(Ls As:List (Int×Int)):Int:=I+Ls.length+As.length
def cM6(I:Int)(Ls As:List (Int×Int))(Bs Cs:List Int):Prop:=
 (∀l∈Bs,litN (size I Ls As) l)/\(∀l∈Cs,litN (size I Ls As) l)/\(∀x∈Ls,latN (size I Ls As) x)/\okG (1+I+Ls.length) As=true
instance (I:Int)(Ls As:List (Int×Int))(Bs Cs:List Int):Decidable (cM6 I Ls As Bs Cs):=by unfold cM6;infer_instance
def bCc(I:Int)(Ls As:List (Int×Int))(Bs Cs:List Int):Int:=if I<0 then 8 else if few I Ls As Bs Cs then(if cM6 I Ls As Bs Cs then 0 else 8) else 4
section
variable {I:Int} {Ls As:List (Int×Int)} {Bs Cs:List Int}
theorem cC6{α:Type}{l:List α}{p:α->Bool}{q:α->Prop}(h:∀x∈l,(p x=false↔q x)):l.any p=false↔∀x∈l,q x:=by
 rw[List.any_eq_false]
 exact⟨fun g x hx=>(h x hx).1 (by simpa using g x hx),fun g x hx=>by simpa using(h x hx).2 (g x hx)⟩
theorem shr1(x:Int):bshr .i64 x 1=x/2:=by
 unfold bshr
 rw[show min (Int.toNat 1) IntKind.i64.bits=1 from rfl,Int.fdiv_eq_ediv_of_nonneg _ (by decide)]
 rfl
theorem cCa{n x:Int}:outF (n+1) x=false↔litN n x:=by
 unfold outF
 rw[shr1,Bool.or_eq_false_iff,decide_eq_false_iff_not,decide_eq_false_iff_not]
 omega
theorem cHz{n:Int}{x:Int×Int}:bN4 (n+1) x=false↔latN n x:=by
 unfold bN4
 rw[Bool.or_eq_false_iff,Bool.or_eq_false_iff,cCa,decide_eq_false_iff_not,decide_eq_false_iff_not]
 omega
theorem bBm.loop{s0 s1 s3:Int}(h:As.length<=140737488351232/\∀x∈As,in64 x.1/\in64 x.2){n:Int}(hn:0<=n/\n<=1000000)(hA:n+As.length<=1000000):∀(m i:Nat),i+m=As.length ->
  bBm.l0 As (As.length:Int) (i:Int) [s0,s1,n,s3]=some (if okG (n+i) (As.drop i)=true then 0 else 8)
 |0,i,hi=>by
  rw[bBm.l0_eq,cd,if_neg (by omega),List.drop_of_length_le (by omega)]
  rfl
 |m+1,i,hi=>by
  have hlt:i<As.length:=by omega
  obtain⟨h1,h2⟩:=h.2 _ (List.getElem_mem hlt)
  have hw:IntKind.wrap .i64 ((i:Int)+1)=((i+1:Nat):Int):=by rw[wr]<;>omega
  have hw2:IntKind.wrap .i64 (2*IntKind.wrap .i64 (n+(i:Int)))=2*(n+(i:Int)):=by rw[wr (x:=n+(i:Int)) (by omega) (by omega),wr (by omega) (by omega)]
  rw[bBm.l0_eq,cd,if_pos (by omega),bCq hlt,Option.bind_some,cd,drop_cons hlt]
  unfold okG
  by_cases c1:(As[i]).2<0
  .rw[if_pos c1,decide_eq_false (by omega:¬0<=(As[i]).2)];rfl
  rw[if_neg c1,cd,decide_eq_true (by omega:0<=(As[i]).2),Bool.true_and]
  by_cases c2:(As[i]).1<(As[i]).2
  .rw[if_pos c2,decide_eq_false (by omega:¬(As[i]).2<=(As[i]).1)];rfl
  rw[if_neg c2,decide_eq_true (by omega:(As[i]).2<=(As[i]).1),Bool.true_and,show geti [s0,s1,n,s3] 2=some n from rfl,Option.bind_some,show([s0,s1,n,s3]:List Int)[Int.toNat 2]?=some n from rfl,Option.bind_some,hw2,cd]
  by_cases c3:(As[i]).1>=2*(n+(i:Int))
  .rw[if_pos c3,decide_eq_false (by omega:¬(As[i]).1/2<n+(i:Int))];rfl
  rw[if_neg c3,decide_eq_true (by omega:(As[i]).1/2<n+(i:Int)),Bool.true_and,hw,bBm.loop h hn hA m (i+1) (by omega),show n+((i+1:Nat):Int)=n+(i:Int)+1 from by omega]
theorem bG2(h:bGi I Ls As Bs Cs):bBm I Ls As Bs Cs=some (bCc I Ls As Bs Cs):=by
 have h1:=h.ls.1
 have h2:=h.as_.1
 have h3:=h.bs.1
 have h4:=h.cs.1
 unfold bCc
 rw[bBm.eq,cd]
 by_cases c1:I<0
 .rw[if_pos c1,if_pos c1]
 rw[if_neg c1,if_neg c1,cd]
 by_cases c2:I>1000
 .rw[if_pos c2,if_neg (fun g=>by have:=g.1;omega)]
 have w1:IntKind.wrap .i64 (1+I)=1+I:=by rw[wr]<;>omega
 have w2:IntKind.wrap .i64 (1+I+(Ls.length:Int))=1+I+(Ls.length:Int):=by rw[wr]<;>omega
 have w3:IntKind.wrap .i64 (1+I+(Ls.length:Int)+(As.length:Int))=size I Ls As+1:=by unfold size;rw[wr]<;>omega
 have w4:IntKind.wrap .i64 (size I Ls As+1-1)=size I Ls As:=by unfold size;rw[wr]<;>omega
 rw[if_neg c2,w1,w2,w3,show geti [1,1+I,1+I+(Ls.length:Int),size I Ls As+1] 3=some (size I Ls As+1) from rfl,Option.bind_some,w4,cd]
 by_cases c3:size I Ls As>1000
 .rw[if_pos c3,if_neg (fun g=>by have:=g.2.1;unfold size at c3;omega)]
 rw[if_neg c3,cd]
 by_cases c4:(if(Bs.length:Int)<(Cs.length:Int) then(Cs.length:Int) else(Bs.length:Int))>100
 .rw[if_pos c4,if_neg (fun g=>by have:=g.2.2;split at c4<;>omega)]
 have c4':Bs.length<=100/\Cs.length<=100:=by split at c4<;>omega
 have c3':I+Ls.length+As.length<=1000:=by unfold size at c3;omega
 have hf:few I Ls As Bs Cs:=⟨by omega,by unfold size at c3;omega,c4'.1,c4'.2⟩
 rw[if_neg c4,if_pos hf,cd,if_pos (by unfold LIM;omega)]
 have e1:Bs.any (outF (size I Ls As+1))=false↔∀l∈Bs,litN (size I Ls As) l:=cC6 fun x _=>cCa
 have e2:Cs.any (outF (size I Ls As+1))=false↔∀l∈Cs,litN (size I Ls As) l:=cC6 fun x _=>cCa
 have e3:Ls.any (bN4 (size I Ls As+1))=false↔∀l∈Ls,latN (size I Ls As) l:=cC6 fun x _=>cHz
 cases q1:Bs.any (outF (size I Ls As+1)) with
 |true=>rw[ct,if_neg (fun g=>by rw[e1.2 g.1]at q1;cases q1)]
 |false=>
  rw[cf,cd,if_pos (by unfold LIM;omega)]
  cases q2:Cs.any (outF (size I Ls As+1)) with
  |true=>rw[ct,if_neg (fun g=>by rw[e2.2 g.2.1]at q2;cases q2)]
  |false=>
   rw[cf,cd,if_pos (by unfold LIM;omega)]
   cases q3:Ls.any (bN4 (size I Ls As+1)) with
   |true=>rw[ct,if_neg (fun g=>by rw[e3.2 g.2.2.1]at q3;cases q3)]
   |false=>
    have:=bBm.loop (s0:=1) (s1:=1+I) (s3:=size I Ls As+1) h.as_ (n:=1+I+(Ls.length:Int)) (by unfold size at c3;omega) (by unfold size at c3;omega) As.length 0 (by omega)
    rw[show((0:Nat):Int)=0 from rfl,List.drop_zero,Int.add_zero]at this
    rw[cf,this]
    by_cases q4:okG (1+I+(Ls.length:Int)) As=true
    .rw[if_pos q4,if_pos ⟨e1.1 q1,e2.1 q2,e3.1 q3,q4⟩]
    .rw[if_neg q4,if_neg (fun g=>q4 g.2.2.2)]
theorem bBh(h:bCc I Ls As Bs Cs=0):0<=I/\few I Ls As Bs Cs/\cM6 I Ls As Bs Cs:=by
 unfold bCc at h
 split at h
 .omega
 .split at h
  .split at h
   .exact⟨by omega,by assumption,by assumption⟩
   .omega
  .omega
theorem bHu(h:bGi I Ls As Bs Cs):bGw I Ls As Bs Cs=some (if bCc I Ls As Bs Cs=0 then(size I Ls As,0) else(0,bCc I Ls As Bs Cs)):=by
 rw[bGw.eq,bG2 h,Option.bind_some,cn]
 by_cases c:bCc I Ls As Bs Cs=0
 .obtain⟨k1,k2,_⟩:=bBh c
  obtain⟨k2,k3,_⟩:=k2
  have w1:IntKind.wrap .i64 (1+I)=1+I:=by rw[wr]<;>omega
  have w2:IntKind.wrap .i64 (1+I+(Ls.length:Int))=1+I+(Ls.length:Int):=by rw[wr]<;>omega
  have w3:IntKind.wrap .i64 (1+I+(Ls.length:Int)+(As.length:Int))=size I Ls As+1:=by unfold size;rw[wr]<;>omega
  have w4:IntKind.wrap .i64 (size I Ls As+1-1)=size I Ls As:=by unfold size;rw[wr]<;>omega
  rw[if_pos c,if_pos c,w1,w2,w3,show geti [1,1+I,1+I+(Ls.length:Int),size I Ls As+1] 3=some (size I Ls As+1) from rfl,Option.bind_some,w4]
 .rw[if_neg c,if_neg c]
theorem bX2(h:bGi I Ls As Bs Cs)(hI:0<=I/\I<=1000):bB4 I Ls As Bs Cs=some (size I Ls As):=by
 have h1:=h.ls.1
 have h2:=h.as_.1
 unfold size
 rw[bB4.eq,wr (x:=I+(Ls.length:Int)) (by omega) (by omega),wr (by omega) (by omega)]
theorem td2{l:Int}(h0:0<=l)(h:in64 l):IntKind.wrap .i64 (Int.tdiv l 2)=l/2:=by rw[td h0 (by unfold in64 at h;omega)]
theorem bM8.loop{n:Int}{l:List Int}(hn:l.length<=140737488351232)(hr:∀x∈l,in64 x):∀(m i:Nat),i+m=l.length->bAg.l0 l n (i:Int)=some (decide (∀x∈l.drop i,litN n x))
 |0,i,hi=>by
  rw[bAg.l0_eq,cd,if_neg (by omega),List.drop_of_length_le (by omega)];simp
 |m+1,i,hi=>by
  have hlt:i<l.length:=by omega
  have hx:=hr _ (List.getElem_mem hlt)
  have hw:IntKind.wrap .i64 ((i:Int)+1)=((i+1:Nat):Int):=by rw[wr]<;>omega
  rw[bAg.l0_eq,cd,if_pos (by omega),bCq hlt,Option.bind_some,cd,drop_cons hlt]
  by_cases c1:l[i]<0
  .rw[if_pos c1,decide_eq_false]
   intro g
   have:=(g _ (List.mem_cons_self ..)).1
   omega
  rw[if_neg c1,Option.bind_some,td2 (by omega) hx,cd]
  by_cases c2:l[i]/2>n
  .rw[if_pos c2,decide_eq_false]
   intro g
   have:=(g _ (List.mem_cons_self ..)).2
   omega
  .rw[if_neg c2,hw,bM8.loop hn hr m (i+1) (by omega)]
   congr 1
   rw[decide_eq_decide,List.forall_mem_cons]
   exact⟨fun g=>⟨⟨by omega,by omega⟩,g⟩,fun g=>g.2⟩
theorem bGq{n:Int}{l:List Int}(hn:l.length<=140737488351232)(hr:∀x∈l,in64 x):bAg l n=some (decide (∀x∈l,litN n x)):=by
 rw[bAg.eq]
 have:=bM8.loop (n:=n) hn hr l.length 0 (by omega)
 rwa [List.drop_zero]at this
theorem bH3.loop1(h:bGi I Ls As Bs Cs)(hI:0<=I/\I<=1000):∀(m i:Nat),i+m=As.length ->
  bAb.l1 (i:Int) I Ls As Bs Cs=some (if okG (1+I+Ls.length+i) (As.drop i)=true then 0 else 8)
 |0,i,hi=>by
  rw[bAb.l1_eq,cd,if_neg (by omega),List.drop_of_length_le (by omega)]
  rfl
 |m+1,i,hi=>by
  have hlt:i<As.length:=by omega
  have hl1:=h.ls.1
  have hl2:=h.as_.1
  obtain⟨h1,h2⟩:=h.as_.2 _ (List.getElem_mem hlt)
  have hw:IntKind.wrap .i64 ((i:Int)+1)=((i+1:Nat):Int):=by rw[wr]<;>omega
  have hw2:IntKind.wrap .i64 (IntKind.wrap .i64 (I+(Ls.length:Int))+(i:Int))=I+Ls.length+i:=by rw[wr (x:=I+(Ls.length:Int)) (by omega) (by omega),wr (by omega) (by omega)]
  rw[bAb.l1_eq,cd,if_pos (by omega),bCq hlt,Option.bind_some,cd,drop_cons hlt]
  unfold okG
  by_cases c1:(As[i]).2<0
  .rw[if_pos c1,decide_eq_false (by omega:¬0<=(As[i]).2)];rfl
  rw[if_neg c1,cd,decide_eq_true (by omega:0<=(As[i]).2),Bool.true_and]
  by_cases c2:(As[i]).1<(As[i]).2
  .rw[if_pos c2,decide_eq_false (by omega:¬(As[i]).2<=(As[i]).1)];rfl
  rw[if_neg c2,decide_eq_true (by omega:(As[i]).2<=(As[i]).1),Bool.true_and,td2 (by omega) h1,hw2,cd]
  by_cases c3:(As[i]).1/2>I+Ls.length+i
  .rw[if_pos c3,decide_eq_false (by omega:¬(As[i]).1/2<1+I+(Ls.length:Int)+(i:Int))];rfl
  rw[if_neg c3,decide_eq_true (by omega:(As[i]).1/2<1+I+(Ls.length:Int)+(i:Int)),Bool.true_and,hw,bH3.loop1 h hI m (i+1) (by omega),show 1+I+(Ls.length:Int)+((i+1:Nat):Int)=1+I+(Ls.length:Int)+(i:Int)+1 from by omega]
theorem bH3.loop0(h:bGi I Ls As Bs Cs)(hI:0<=I/\I<=1000){n:Int}:∀(m i:Nat),i+m=Ls.length ->
  bAb.l0 n (i:Int) I Ls As Bs Cs=some (if(∀x∈Ls.drop i,latN n x)/\okG (1+I+Ls.length) As=true then 0 else 8)
 |0,i,hi=>by
  have:=bH3.loop1 h hI As.length 0 (by omega)
  rw[show((0:Nat):Int)=0 from rfl,List.drop_zero,Int.add_zero]at this
  rw[bAb.l0_eq,cd,if_neg (by omega),List.drop_of_length_le (by omega),this]
  simp
 |m+1,i,hi=>by
  have hlt:i<Ls.length:=by omega
  obtain⟨h1,h2⟩:=h.ls.2 _ (List.getElem_mem hlt)
  have hl:=h.ls.1
  have hw:IntKind.wrap .i64 ((i:Int)+1)=((i+1:Nat):Int):=by rw[wr]<;>omega
  rw[bAb.l0_eq,cd,if_pos (by omega),bCq hlt,Option.bind_some,bGq (by simp) (fun x hx=>by rw[List.mem_singleton]at hx;subst hx;exact h1),Option.bind_some,cnot,cd,drop_cons hlt]
  by_cases c1:litN n (Ls[i]).1
  .rw[if_pos (by simpa using c1),Option.bind_some,cd]
   by_cases c2:(Ls[i]).2<0
   .rw[if_pos c2,if_neg]
    intro g
    have:=(g.1 _ (List.mem_cons_self ..)).2.1
    omega
   rw[if_neg c2,Option.bind_some,cd]
   by_cases c3:(Ls[i]).2>2
   .rw[if_pos c3,if_neg]
    intro g
    have:=(g.1 _ (List.mem_cons_self ..)).2.2
    omega
   rw[if_neg c3,hw,bH3.loop0 h hI m (i+1) (by omega)]
   congr 1
   by_cases c4:(∀x∈Ls.drop (i+1),latN n x)/\okG (1+I+Ls.length) As=true
   .rw[if_pos c4,if_pos ⟨List.forall_mem_cons.2 ⟨⟨c1,by omega,by omega⟩,c4.1⟩,c4.2⟩]
   .rw[if_neg c4,if_neg (fun g=>c4 ⟨(List.forall_mem_cons.1 g.1).2,g.2⟩)]
  .rw[if_neg (by simpa using c1),if_neg]
   intro g
   exact c1 (g.1 _ (List.mem_cons_self ..)).1
theorem bM9(h:bGi I Ls As Bs Cs):bAb I Ls As Bs Cs=some (bCc I Ls As Bs Cs):=by
 unfold bCc
 rw[bAb.eq,cd]
 by_cases c1:I<0
 .rw[if_pos c1,if_pos c1]
 rw[if_neg c1,if_neg c1,cd]
 by_cases c2:I>1000
 .rw[if_pos c2,if_neg (fun g=>by have:=g.1;omega)]
 rw[if_neg c2,bX2 h ⟨by omega,by omega⟩,Option.bind_some,cd]
 by_cases c3:size I Ls As>1000
 .rw[if_pos c3,if_neg (fun g=>by have:=g.2.1;unfold size at c3;omega)]
 rw[if_neg c3,cd]
 by_cases c4:(Bs.length:Int)>100
 .rw[if_pos c4,if_neg (fun g=>by have:=g.2.2.1;omega)]
 rw[if_neg c4,cd]
 by_cases c5:(Cs.length:Int)>100
 .rw[if_pos c5,if_neg (fun g=>by have:=g.2.2.2;omega)]
 have hf:few I Ls As Bs Cs:=⟨by omega,by unfold size at c3;omega,by omega,by omega⟩
 rw[if_neg c5,if_pos hf,Option.bind_some,bGq h.bs.1 h.bs.2,Option.bind_some,cnot,cd]
 by_cases q1:∀x∈Bs,litN (size I Ls As) x
 .rw[if_pos q1,bGq h.cs.1 h.cs.2,Option.bind_some,cnot,cd]
  by_cases q2:∀x∈Cs,litN (size I Ls As) x
  .have:=bH3.loop0 h ⟨by omega,by omega⟩ (n:=size I Ls As) Ls.length 0 (by omega)
   rw[show((0:Nat):Int)=0 from rfl,List.drop_zero]at this
   rw[if_pos q2,this]
   congr 1
   by_cases q3:(∀x∈Ls,latN (size I Ls As) x)/\okG (1+I+Ls.length) As=true
   .rw[if_pos q3,if_pos ⟨q1,q2,q3.1,q3.2⟩]
   .rw[if_neg q3,if_neg (fun g=>q3 g.2.2)]
  .rw[if_neg q2,if_neg (fun g=>q2 g.2.1)]
 .rw[if_neg q1,if_neg (fun g=>q1 g.1)]
theorem bVo(h:bGi I Ls As Bs Cs):bCf I Ls As Bs Cs=some (decide (Ls.length>60\/As.length>120\/Bs.length>110\/Cs.length>110\/(40<I/\I<996))):=by
 rw[bCf.eq,cd]
 by_cases c1:(Ls.length:Int)>60
 .rw[if_pos c1,decide_eq_true (by omega)]
 rw[if_neg c1,cd]
 by_cases c2:(As.length:Int)>120
 .rw[if_pos c2,decide_eq_true (by omega)]
 rw[if_neg c2,cd]
 by_cases c3:(Bs.length:Int)>110
 .rw[if_pos c3,decide_eq_true (by omega)]
 rw[if_neg c3,cd]
 by_cases c4:(Cs.length:Int)>110
 .rw[if_pos c4,decide_eq_true (by omega)]
 rw[if_neg c4,cd]
 by_cases c5:I>40
 .rw[if_pos c5]
  congr 1
  rw[decide_eq_decide]
  omega
 .rw[if_neg c5,decide_eq_false (by omega)]
end
end
section
theorem bZn{n:Nat}(h:(n:Int)<=9223372036854775806):(BitVec.ofInt 64 (n:Int)).toNat=n:=by
 rw[BitVec.toNat_ofInt];omega
theorem cFw{l:Int}(h:0<=l)(h2:l<=9223372036854775806):band .i64 l 1=l%2:=by
 unfold band
 obtain⟨n,rfl⟩:=Int.eq_ofNat_of_zero_le h
 have hx:((BitVec.ofInt 64 (n:Int))&&&(BitVec.ofInt 64 1)).toNat=n%2:=by
  rw[BitVec.toNat_and,bZn h2,show(BitVec.ofInt 64 1).toNat=1 by decide,Nat.and_one_is_mod]
 show IntKind.wrap .i64 (((BitVec.ofInt 64 (n:Int))&&&(BitVec.ofInt 64 1)).toNat:Int)=_
 rw[hx,wr]<;>omega
theorem cLf{l:Int}(h:0<=l)(h2:l<=9223372036854775806):bxor .i64 l 0=l:=by
 unfold bxor
 obtain⟨n,rfl⟩:=Int.eq_ofNat_of_zero_le h
 have hx:((BitVec.ofInt 64 (n:Int))^^^(BitVec.ofInt 64 0)).toNat=n:=by
  rw[BitVec.toNat_xor,bZn h2,show(BitVec.ofInt 64 0).toNat=0 by decide,Nat.xor_zero]
 show IntKind.wrap .i64 (((BitVec.ofInt 64 (n:Int))^^^(BitVec.ofInt 64 0)).toNat:Int)=_
 rw[hx,wr]<;>omega
def litR(row:List Int)(l:Int):Int:=row.getD (l/2).toNat 0+l%2
theorem bJ8{row:List Int}{l:Int}(hl:0<=l/\l<=1000000)(hi:(l/2).toNat<row.length){j:Int}(hj:row.getD (l/2).toNat 0=2*j)(hj2:0<=j/\j<=1000000):bFs row l=some (litR row l):=by
 have hg:geti row (l/2)=some (2*j):=by
  rw[show l/2=(((l/2).toNat:Nat):Int) from by omega,bCq hi]
  rw[List.getD_eq_getElem?_getD,List.getElem?_eq_getElem hi,Option.getD_some]at hj
  rw[hj]
 rw[bFs.eq,td hl.1 (by omega),hg,Option.bind_some,cFw hl.1 (by omega)]
 unfold litR
 rw[hj]
 rcases(by omega:l%2=0\/l%2=1) with e|e
 .rw[e,cLf (by omega) (by omega),Int.add_zero]
 .rw[e,bG3 (by omega) (by omega)]
  unfold neg
  rw[if_pos (by omega)]
theorem cD1{row:List Int}{l j:Int}(hj:row.getD (l/2).toNat 0=2*j):litR row (neg l)=neg (litR row l):=by
 unfold litR
 rw[bCo,hj]
 unfold neg
 split<;>split<;>omega
def ins1(x:Int):List Int->List Int
 |[]=>[x]
 |y::r=>if x<y then x::y::r else if x=y then y::r else y::ins1 x r
def nrm(l:List Int):List Int:=l.foldr ins1 []
theorem bYf{x z:Int}:∀{S:List Int},z∈ins1 x S↔z=x\/z∈S
 |[]=>by simp[ins1]
 |y::r=>by
  unfold ins1
  split
  .rw[List.mem_cons]
  .split
   .rename_i e
    subst e
    rw[List.mem_cons]
    exact⟨.inr,fun h=>h.elim .inl id⟩
   .rw[List.mem_cons,bYf (S:=r),List.mem_cons]
    constructor
    .rintro(h|h|h)
     .exact .inr (.inl h)
     .exact .inl h
     .exact .inr (.inr h)
    .rintro(h|h|h)
     .exact .inr (.inl h)
     .exact .inl h
     .exact .inr (.inr h)
theorem bTo{x:Int}:∀{S:List Int},S.Pairwise (· < ·)->(ins1 x S).Pairwise (· < ·)
 |[],_=>by simp[ins1]
 |y::r,h=>by
  have h':=h
  rw[List.pairwise_cons]at h
  unfold ins1
  split
  .rename_i hlt
   rw[List.pairwise_cons]
   refine⟨fun z hz=>?_,h'⟩
   rcases List.mem_cons.1 hz with rfl|hz
   .exact hlt
   .have:=h.1 z hz;omega
  .split
   .exact h'
   .rw[List.pairwise_cons]
    refine⟨fun z hz=>?_,bTo h.2⟩
    rcases bYf.1 hz with rfl|hz
    .omega
    .exact h.1 z hz
theorem bMv:∀(l:List Int),(nrm l).Pairwise (· < ·)/\∀z,z∈nrm l↔z∈l
 |[]=>⟨List.Pairwise.nil,fun z=>Iff.rfl⟩
 |x::r=>by
  obtain⟨h1,h2⟩:=bMv r
  refine⟨bTo h1,fun z=>?_⟩
  show z∈ins1 x (nrm r)↔_
  rw[bYf,h2,List.mem_cons]
theorem cCw(l:List Int):Lib.compact (bK2 l)=nrm l:=by
 obtain⟨p1,p2⟩:=bGp l
 obtain⟨c1,c2⟩:=cA7 p2
 obtain⟨n1,n2⟩:=bMv l
 exact bPb c1 n1 fun y=>by rw[c2,p1.mem_iff,n2]
def bQf(l:List Int):Bool:=l.any fun x=>l.any fun y=>decide (x≠y/\x/2=y/2)
theorem bG7{l:List Int}:bQf l=true↔∃x∈l,∃y∈l,x≠y/\x/2=y/2:=by
 unfold bQf
 rw[List.any_eq_true]
 constructor
 .rintro⟨x,hx,h⟩
  rw[List.any_eq_true]at h
  obtain⟨y,hy,h⟩:=h
  exact⟨x,hx,y,hy,by simpa using h⟩
 .rintro⟨x,hx,y,hy,h⟩
  exact⟨x,hx,List.any_eq_true.2 ⟨y,hy,by simpa using h⟩⟩
theorem cLu{C:List Int}(hC:C.Pairwise (· < ·)):(∀j,j<C.length->0<=j->0<j->C.getD j 0/2≠C.getD (j-1) 0/2)↔bQf C=false:=by
 have at_:∀{j},(hj:j<C.length)->C.getD j 0=C[j]:=fun hj=>by rw[List.getD_eq_getElem?_getD,List.getElem?_eq_getElem hj,Option.getD_some]
 have lt:∀{i j:Nat} (hi:i<C.length) (hj:j<C.length),i<j->C[i]<C[j]:=fun hi hj h=>List.pairwise_iff_getElem.1 hC _ _ hi hj h
 constructor
 .intro h
  rw[<-Bool.not_eq_true]
  intro ht
  have main:∀x∈C,∀y∈C,x<y->x/2=y/2->False:=by
   intro x hx y hy hlt he
   obtain⟨i,hi,rfl⟩:=List.getElem_of_mem hx
   obtain⟨j,hj,rfl⟩:=List.getElem_of_mem hy
   have hij:i<j:=by
    apply Classical.byContradiction
    intro hn
    rcases Nat.lt_or_ge j i with q|q
    .have:=lt hj hi q;omega
    .have:i=j:=by omega
     subst this;omega
   have hij2:i=j-1:=by
    apply Classical.byContradiction
    intro hn
    have h1:=lt hi (j:=j-1) (by omega) (by omega)
    have h2:=lt (i:=j-1) (by omega) hj (by omega)
    omega
   have:=h j hj (by omega) (by omega)
   rw[at_ hj,at_ (by omega)]at this
   subst hij2
   exact this he.symm
  obtain⟨x,hx,y,hy,hne,he⟩:=bG7.1 ht
  rcases Int.lt_or_gt_of_ne hne with q|q
  .exact main x hx y hy q he
  .exact main y hy x hx q he.symm
 .intro h j hj _ h0 he
  rw[at_ hj,at_ (by omega)]at he
  have:=bG7.2 ⟨_,List.getElem_mem hj,_,List.getElem_mem (show j-1<C.length by omega),by have:=lt (i:=j-1) (by omega) hj (by omega);omega,he⟩
  rw[h]at this;cases this
theorem cBs{a b:List Int}(h:∀z,z∈a↔z∈b):bQf a=bQf b:=by
 rw[Bool.eq_iff_iff,bG7,bG7]
 constructor
 .rintro⟨x,hx,y,hy,e⟩;exact⟨x,(h x).1 hx,y,(h y).1 hy,e⟩
 .rintro⟨x,hx,y,hy,e⟩;exact⟨x,(h x).2 hx,y,(h y).2 hy,e⟩
theorem bVy{v:Int}(hv:okV v){l:List Int}(hl:∀x∈l,isLit v x)(hn:l.length<=1000000):bAz v l=some (if bQf l=true then([],true,0) else(nrm l,false,0)):=by
 obtain⟨p1,p2⟩:=bGp l
 obtain⟨n1,n2⟩:=bMv l
 have hcl:(Lib.compact (bK2 l)).length<=1000000:=by
  have:=bNy (bK2 l)
  rw[p1.length_eq]at this;omega
 have hv':=hv
 obtain⟨v1,v2⟩:=hv'
 have g0:=bAz.loop0 hv hl hn l.length 0 (by omega)
 rw[cCw]at g0 hcl
 have g1:=bAz.loop1 hcl (fun x hx=>by have:=hl x ((n2 x).1 hx);omega) (nrm l).length 0 (by omega)
 rw[show((0:Nat):Int)=0 from rfl]at g0 g1
 have e:bAz v l=bAz.l1 ((nrm l).length:Int) 0 (nrm l):=by
  rw[bAz.eq,cd,if_neg (by omega),cd,if_neg (by omega),g0]
 rw[e,g1,cBs (fun z=>(n2 z).symm)]
 by_cases hall:∀j,j<(nrm l).length->0<=j->0<j->(nrm l).getD j 0/2≠(nrm l).getD (j-1) 0/2
 .rw[if_pos hall,(cLu n1).1 hall,if_neg (by simp)]
 .rw[if_neg hall,if_pos (by rw[<-Bool.not_eq_false];exact fun h=>hall ((cLu n1).2 h))]
def big(ls:List Int):List Int:=ls.filter fun x=>decide (1<x)
def addC(cl:List (List Int))(ls:List Int):List (List Int):=if 1∈ls then cl else if bQf (big ls)=true then cl else cl++[nrm (big ls)]
theorem bBf.loop{v:Int}(hv:okV v){cl:List (List Int)}(hcl:cl.length<=100000){ls:List Int}(hl:∀x∈ls,0<=x/\x<=2*v+1)(hn:ls.length<=1000):∀(n i:Nat),i+n=ls.length->1∉ls.take i ->
  bBf.l0 v ls (ls.length:Int) (i:Int) cl (big (ls.take i))=some (addC cl ls)
 |0,i,hi,h1=>by
  rw[List.take_of_length_le (by omega)]at h1 ⊢
  have hb:∀x∈big ls,isLit v x:=fun x hx=>by
   obtain⟨h1,h2⟩:=List.mem_filter.1 hx
   have:=hl x h1
   have:1<x:=by simpa using h2
   exact⟨by omega,by omega⟩
  have hbn:(big ls).length<=ls.length:=List.length_filter_le _ _
  rw[bBf.l0_eq,cd,if_neg (by omega),bVy hv hb (by omega),Option.bind_some]
  unfold addC
  rw[if_neg h1]
  by_cases ht:bQf (big ls)=true
  .rw[if_pos ht,if_pos ht];rfl
  .rw[if_neg ht,if_neg ht]
   dsimp only
   rw[cn,if_pos rfl,cf,bCi (by simp;omega),Option.bind_some]
 |n+1,i,hi,h1=>by
  have hlt:i<ls.length:=by omega
  have hx:=hl _ (List.getElem_mem hlt)
  have hw:IntKind.wrap .i64 ((i:Int)+1)=((i+1:Nat):Int):=by rw[wr]<;>omega
  have hbn:(big (ls.take i)).length<=(ls.take i).length:=List.length_filter_le _ _
  rw[List.length_take]at hbn
  rw[bBf.l0_eq,cd,if_pos (by omega),bCq hlt,Option.bind_some,ce]
  by_cases e1:ls[i]=1
  .rw[if_pos e1]
   unfold addC
   rw[if_pos (e1▸List.getElem_mem hlt)]
  .have h1':1∉ls.take (i+1):=by
    rw[List.take_add_one,List.getElem?_eq_getElem hlt,List.mem_append,Option.toList_some,List.mem_singleton]
    rintro(h|h)
    .exact h1 h
    .exact e1 h.symm
   have ih:=bBf.loop hv hcl hl hn n (i+1) (by omega) h1'
   have hb:big (ls.take (i+1))=big (ls.take i)++if 1<ls[i] then[ls[i]] else[]:=by
    unfold big
    rw[List.take_add_one,List.getElem?_eq_getElem hlt,Option.toList_some,List.filter_append]
    congr 1
    by_cases h:1<ls[i]<;>simp[h]
   rw[if_neg e1,cd,hw,<-ih,hb]
   by_cases e2:ls[i]>1
   .rw[if_pos e2,if_pos e2,bCi (by simp;omega),Option.bind_some]
   .rw[if_neg e2,if_neg e2,List.append_nil]
theorem bJ9{v:Int}(hv:okV v){cl:List (List Int)}(hcl:cl.length<=100000){ls:List Int}(hl:∀x∈ls,0<=x/\x<=2*v+1)(hn:ls.length<=1000):bBf cl v ls=some (addC cl ls):=by
 have:=bBf.loop hv hcl hl hn ls.length 0 (by omega) (by simp)
 rw[bBf.eq]
 exact this
theorem bY9{cl:List (List Int)}{ls:List Int}:(addC cl ls).length<=cl.length+1:=by
 unfold addC
 split
 .omega
 .split
  .omega
  .simp
def setB(M:List Bool)(v:Int):List Bool:=M.set v.toNat true
theorem bDa{M:List Bool}{v:Int}:(setB M v).length=M.length:=List.length_set ..
theorem bGz{M:List Bool}{v:Int}(h:v.toNat<M.length){j:Nat}:(setB M v).getD j false=(decide (j=v.toNat)||M.getD j false):=by
 unfold setB
 rw[List.getD_eq_getElem?_getD,List.getElem?_set,List.getD_eq_getElem?_getD]
 by_cases e:v.toNat=j
 .subst e
  rw[if_pos rfl,if_pos h,decide_eq_true rfl];rfl
 .rw[if_neg e,decide_eq_false (fun q=>e q.symm),Bool.false_or]
def bTb(M:List Bool):List Int->List Bool
 |[]=>M
 |l::r=>bTb (setB M (l/2)) r
theorem bKs:∀{ls:List Int} {M:List Bool},(bTb M ls).length=M.length
 |[],M=>rfl
 |l::r,M=>by rw[bTb,bKs,bDa]
theorem cAe{N:Nat}{j:Nat}:∀{ls:List Int} {M:List Bool},M.length=N->(∀l∈ls,(l/2).toNat<N)->(bTb M ls).getD j false=(decide (∃l∈ls,j=(l/2).toNat)||M.getD j false)
 |[],M,_,_=>by simp[bTb]
 |l::r,M,hM,h=>by
  rw[bTb,cAe (by rw[bDa];exact hM) (fun x hx=>h x (List.mem_cons_of_mem _ hx)),bGz (by rw[hM];exact h l (List.mem_cons_self ..)),<-Bool.or_assoc]
  congr 1
  rw[Bool.eq_iff_iff]
  simp only[Bool.or_eq_true,decide_eq_true_eq]
  constructor
  .rintro(⟨x,hx,e⟩|e)
   .exact⟨x,List.mem_cons_of_mem _ hx,e⟩
   .exact⟨l,List.mem_cons_self ..,e⟩
  .rintro⟨x,hx,e⟩
   rcases List.mem_cons.1 hx with rfl|hx
   .exact .inr e
   .exact .inl ⟨x,hx,e⟩
def bNx(f:Nat)(As:List (Int×Int)):Nat->List Bool->List Bool
 |0,M=>M
 |k+1,M=>bNx f As k (if M.getD (f+k) false=true then setB (setB M ((As.getD k (0,0)).1/2)) ((As.getD k (0,0)).2/2) else M)
theorem cA6{f:Nat}{As:List (Int×Int)}:∀{k:Nat} {M:List Bool},(bNx f As k M).length=M.length
 |0,M=>rfl
 |k+1,M=>by
  rw[bNx,cA6]
  split
  .rw[bDa,bDa]
  .rfl
def bLq(f:Nat)(As:List (Int×Int)):Prop:=∀k,k<As.length->0<=(As.getD k (0,0)).2/\(As.getD k (0,0)).2<=(As.getD k (0,0)).1/\(As.getD k (0,0)).1/2<(f:Int)+k
theorem cJ2:∀{As:List (Int×Int)} {n:Int},okG n As=true->∀k,k<As.length->0<=(As.getD k (0,0)).2/\(As.getD k (0,0)).2<=(As.getD k (0,0)).1/\(As.getD k (0,0)).1/2<n+k
 |[],n,h,k,hk=>by simp at hk
 |x::r,n,h,k,hk=>by
  unfold okG at h
  rw[Bool.and_eq_true,Bool.and_eq_true,Bool.and_eq_true,decide_eq_true_eq,decide_eq_true_eq,decide_eq_true_eq]at h
  obtain⟨⟨⟨h1,h2⟩,h3⟩,h4⟩:=h
  cases k with
  |zero=>exact⟨h1,h2,by simpa using h3⟩
  |succ k=>
   have:=cJ2 h4 k (by simpa using hk)
   rw[List.getD_cons_succ]
   refine⟨this.1,this.2.1,?_⟩
   have:=this.2.2
   omega
section
variable {f:Nat} {As:List (Int×Int)}
theorem bSg(hb:bLq f As):∀{k:Nat} {M:List Bool},k<=As.length->f+As.length<=M.length->∀j,M.getD j false=true->(bNx f As k M).getD j false=true
 |0,M,_,_,j,h=>h
 |k+1,M,hk,hM,j,h=>by
  obtain⟨b1,b2,b3⟩:=hb k (by omega)
  rw[bNx]
  refine bSg hb (by omega) (by split<;>first|exact hM|(rw[bDa,bDa];exact hM)) j ?_
  split
  .rw[bGz (by rw[bDa];omega),bGz (by omega),h];simp
  .exact h
theorem bT4(hb:bLq f As):∀{k:Nat} {M:List Bool},k<=As.length->f+As.length<=M.length->∀j,f+k<=j+1->(bNx f As k M).getD j false=M.getD j false
 |0,M,_,_,j,h=>rfl
 |k+1,M,hk,hM,j,h=>by
  obtain⟨b1,b2,b3⟩:=hb k (by omega)
  rw[bNx,bT4 hb (by omega) (by split<;>first|exact hM|(rw[bDa,bDa];exact hM)) j (by omega)]
  split
  .rw[bGz (by rw[bDa];omega),bGz (by omega),decide_eq_false (by omega),decide_eq_false (by omega),Bool.false_or,Bool.false_or]
  .rfl
def bD3(f:Nat)(As:List (Int×Int))(M:List Bool):Prop:=∀k,k<As.length->M.getD (f+k) false=true->M.getD ((As.getD k (0,0)).1/2).toNat false=true/\M.getD ((As.getD k (0,0)).2/2).toNat false=true
theorem bMe(hb:bLq f As):∀{k:Nat} {M:List Bool},k<=As.length->f+As.length<=M.length->∀j,j<k->(bNx f As k M).getD (f+j) false=true ->
  (bNx f As k M).getD ((As.getD j (0,0)).1/2).toNat false=true/\(bNx f As k M).getD ((As.getD j (0,0)).2/2).toNat false=true
 |0,M,_,_,j,h,_=>by omega
 |k+1,M,hk,hM,j,h,ht=>by
  obtain⟨b1,b2,b3⟩:=hb k (by omega)
  have hlen:f+As.length<=(if M.getD (f+k) false=true then setB (setB M ((As.getD k (0,0)).1/2)) ((As.getD k (0,0)).2/2) else M).length:=by split<;>first|exact hM|(rw[bDa,bDa];exact hM)
  rw[bNx]at ht ⊢
  rcases Nat.lt_or_ge j k with q|q
  .exact bMe hb (by omega) hlen j q ht
  .have e:j=k:=by omega
   subst e
   rw[bT4 hb (by omega) hlen _ (by omega)]at ht
   have hm:M.getD (f+j) false=true:=by
    split at ht
    .rw[bGz (by rw[bDa];omega),bGz (by omega),decide_eq_false (by omega),decide_eq_false (by omega),Bool.false_or,Bool.false_or]at ht
     exact ht
    .exact ht
   rw[if_pos hm]at hlen ⊢
   exact⟨bSg hb (by omega) hlen _ (by rw[bGz (by rw[bDa];omega),bGz (by omega),decide_eq_true (rfl),Bool.true_or,Bool.or_true]),
    bSg hb (by omega) hlen _ (by rw[bGz (by rw[bDa];omega),decide_eq_true (rfl),Bool.true_or])⟩
end
def cntM(M:List Bool):Nat->Nat
 |0=>0
 |v+1=>cntM M v+if M.getD (v+1) false=true then 1 else 0
theorem bLk{M:List Bool}:∀{a b:Nat},a<=b->cntM M a<=cntM M b/\cntM M b<=cntM M a+(b-a)
 |a,0,h=>by
  have:a=0:=by omega
  subst this;omega
 |a,b+1,h=>by
  by_cases e:a=b+1
  .subst e;omega
  .have:=bLk (M:=M) (a:=a) (b:=b) (by omega)
   rw[cntM]
   split<;>omega
theorem bMz{M:List Bool}{v:Nat}(h:M.getD v false=true)(hv:0<v):cntM M v=cntM M (v-1)+1:=by
 obtain⟨u,rfl⟩:∃u,v=u+1:=⟨v-1,by omega⟩
 rw[cntM,if_pos h];rfl
theorem cFk{M:List Bool}{a b:Nat}(hb:M.getD b false=true)(h:a<b):cntM M a<cntM M b:=by
 rw[bMz hb (by omega)]
 have:=(bLk (M:=M) (a:=a) (b:=b-1) (by omega)).1
 omega
def rowM(M:List Bool)(N k:Nat):List Int:=(List.range N).map fun v=>if v=0 then 0 else if v<=k then(if M.getD v false=true then 2*(cntM M v:Int) else -1) else 0
theorem bHq{M:List Bool}{N k:Nat}:(rowM M N k).length=N:=by simp[rowM]
theorem cMp{M:List Bool}{N k v:Nat}(h:v<N):(rowM M N k).getD v 0=if v=0 then 0 else if v<=k then(if M.getD v false=true then 2*(cntM M v:Int) else -1) else 0:=by
 rw[List.getD_eq_getElem?_getD,List.getElem?_eq_getElem (by rw[bHq];exact h),Option.getD_some]
 simp[rowM]
theorem cJq{M:List Bool}{N:Nat}:rowM M N 0=List.replicate N 0:=by
 refine List.ext_getElem (by rw[bHq,List.length_replicate]) fun j h1 h2=>?_
 rw[List.getElem_replicate]
 simp only[rowM,List.getElem_map,List.getElem_range]
 split
 .rfl
 .rw[if_neg (by omega)]
theorem cMo{M:List Bool}{N k:Nat}:(rowM M N k).set (k+1) (if M.getD (k+1) false=true then 2*(cntM M (k+1):Int) else -1)=rowM M N (k+1):=by
 refine List.ext_getElem (by rw[List.length_set,bHq,bHq]) fun j h1 h2=>?_
 rw[List.getElem_set]
 simp only[rowM,List.getElem_map,List.getElem_range]
 by_cases e:k+1=j
 .subst e
  rw[if_pos rfl,if_neg (show ¬k+1=0 by omega),if_pos (show k+1<=k+1 by omega)]
 .rw[if_neg e]
  by_cases e0:j=0
  .rw[if_pos e0,if_pos e0]
  .rw[if_neg e0,if_neg e0]
   by_cases e1:j<=k
   .rw[if_pos e1,if_pos (show j<=k+1 by omega)]
   .rw[if_neg e1,if_neg (show ¬j<=k+1 by omega)]
theorem bSz{M:List Bool}{n w:Nat}(hw:w<=n)(hm:w=0\/M.getD w false=true):(rowM M (n+1) n).getD w 0=2*(cntM M w:Int):=by
 rw[cMp (by omega)]
 by_cases e:w=0
 .subst e;rw[if_pos rfl];rfl
 .rw[if_neg e,if_pos hw,if_pos (hm.resolve_left e)]
def cNa(row:List Int)(g:Int)(x:Int×Int)(cl:List (List Int)):List (List Int):=
 addC (addC (addC cl [litR row (2*g+1),litR row x.1]) [litR row (2*g+1),litR row x.2]) [litR row (2*g),litR row (neg x.1),litR row (neg x.2)]
def bJf(M:List Bool)(row:List Int):Nat->List (Int×Int)->List (List Int)->List (List Int)
 |_,[],cl=>cl
 |g,x::r,cl=>bJf M row (g+1) r (if M.getD g false=true then cNa row g x cl else cl)
end
section
variable {I:Int} {Ls As:List (Int×Int)} {Bs Cs:List Int} {f n:Nat}
theorem gdB{M:List Bool}{v:Nat}(h:v<M.length):M[v]?=some (M.getD v false):=by
 rw[List.getD_eq_getElem?_getD,List.getElem?_eq_getElem h];rfl
theorem getB{M:List Bool}{v:Nat}(h:v<M.length):geti M (v:Int)=some (M.getD v false):=by rw[gi,gdB h]
theorem getP{k:Nat}(h:k<As.length):geti As (k:Int)=some (As.getD k (0,0)):=by
 rw[gi,List.getD_eq_getElem?_getD,List.getElem?_eq_getElem h];rfl
theorem gdI{R:List Int}{v:Nat}(h:v<R.length):R[v]?=some (R.getD v 0):=by
 rw[List.getD_eq_getElem?_getD,List.getElem?_eq_getElem h];rfl
theorem getI{R:List Int}{v:Nat}(h:v<R.length):geti R (v:Int)=some (R.getD v 0):=by rw[gi,gdI h]
theorem bZc{x:Int}(h:0<=x)(h2:x<=1000000):IntKind.wrap .i64 (Int.tdiv x 2)=(((x/2).toNat:Nat):Int):=by
 rw[td h (by omega)];omega
theorem bAm.loop0{N:Nat}{ls:List Int}(hl:∀l∈ls,0<=l/\l<=1000000/\(l/2).toNat<N)(hn:ls.length<=1000)(hI:0<=I/\I<=1000)(hL:Ls.length<=1000)(hN:0<N/\N<=1000000):∀(n i:Nat) (M:List Bool),i+n=ls.length->M.length=N ->
  bAm.l0 ls (ls.length:Int) (i:Int) M I Ls As Bs Cs=bAm.l1 (1+I+Ls.length) ((N:Int)-1) (bTb M (ls.drop i)) I Ls As Bs Cs
 |0,i,M,hi,hM=>by
  have w1:IntKind.wrap .i64 (1+I)=1+I:=by rw[wr]<;>omega
  have w2:IntKind.wrap .i64 (1+I+(Ls.length:Int))=1+I+(Ls.length:Int):=by rw[wr]<;>omega
  have w3:IntKind.wrap .i64 ((M.length:Int)-1)=(N:Int)-1:=by rw[hM,wr]<;>omega
  rw[bAm.l0_eq,cd,if_neg (by omega),List.drop_of_length_le (by omega),w1,w2,w3]
  rfl
 |n+1,i,M,hi,hM=>by
  have hlt:i<ls.length:=by omega
  obtain⟨h0,h1,h2⟩:=hl _ (List.getElem_mem hlt)
  have hw:IntKind.wrap .i64 ((i:Int)+1)=((i+1:Nat):Int):=by rw[wr]<;>omega
  rw[bAm.l0_eq,cd,if_pos (by omega),bCq hlt,Option.bind_some,bZc h0 h1,getB (by rw[hM];exact h2),Option.bind_some,Int.toNat_natCast,gdB (by rw[hM];exact h2),Option.bind_some,hw,
   bAm.loop0 hl hn hI hL hN n (i+1) _ (by omega) (by rw[List.length_set];exact hM),drop_cons hlt,bTb]
  rfl
theorem bAm.loop1(hb:bLq f As)(hf:(f:Int)=1+I+Ls.length)(hN:f+As.length<=1001):∀(k:Nat) (M:List Bool),k<=As.length->M.length=f+As.length ->
  bAm.l1 (1+I+Ls.length) (((f+k:Nat):Int)-1) M I Ls As Bs Cs=some (bNx f As k M)
 |0,M,hk,hM=>by
  rw[bAm.l1_eq,cd,if_neg (by omega)];rfl
 |k+1,M,hk,hM=>by
  obtain⟨b1,b2,b3⟩:=hb k (by omega)
  have e1:((f+(k+1):Nat):Int)-1=((f+k:Nat):Int):=by omega
  have w1:IntKind.wrap .i64 (((f+k:Nat):Int)-(1+I+Ls.length))=(k:Int):=by rw[wr]<;>omega
  have w2:IntKind.wrap .i64 (((f+k:Nat):Int)-1)=((f+k:Nat):Int)-1:=by rw[wr]<;>omega
  have i0:f+k<M.length:=by omega
  rw[e1,bAm.l1_eq,cd,if_pos (by omega),w1,w2,getP (by omega),Option.bind_some,getB i0,Option.bind_some,Int.toNat_natCast,gdB i0,Option.bind_some,bNx]
  generalize As.getD k (0,0)=x at *
  cases hm:M.getD (f+k) false with
  |true=>
   have i1:(x.1/2).toNat<M.length:=by omega
   have i2:(x.2/2).toNat<(M.set (x.1/2).toNat true).length:=by rw[List.length_set];omega
   rw[ct,bZc (by omega) (by omega),bZc (by omega) (by omega),getB i1,Option.bind_some,Int.toNat_natCast,gdB i1,Option.bind_some,Int.toNat_natCast,getB i2,Option.bind_some,gdB i2,Option.bind_some,if_pos rfl]
   exact bAm.loop1 hb hf hN k _ (by omega) (by rw[List.length_set,List.length_set];exact hM)
  |false=>
   rw[cf,if_neg (by simp)]
   exact bAm.loop1 hb hf hN k _ (by omega) hM
theorem bAn.loop0{ls:List Int}{v:Int}(hn:ls.length<=140737488351232)(hr:∀l∈ls,in64 l){b1:Int}{o2 o3:List (List Int)}:∀(m i:Nat),i+m=ls.length ->
  bAn.l0 ls v ls (ls.length:Int) (i:Int) I Ls As Bs Cs b1 o2 o3=if ∀l∈ls.drop i,litN v l then bAn.l0 ls v ls (ls.length:Int) (ls.length:Int) I Ls As Bs Cs b1 o2 o3 else some ((0,([],[])),2)
 |0,i,hi=>by
  have:i=ls.length:=by omega
  subst this
  rw[List.drop_length,if_pos (by simp)]
 |m+1,i,hi=>by
  have hlt:i<ls.length:=by omega
  have hx:=hr _ (List.getElem_mem hlt)
  have hw:IntKind.wrap .i64 ((i:Int)+1)=((i+1:Nat):Int):=by rw[wr]<;>omega
  rw[bAn.l0_eq (x31:=(i:Int)),cd,if_pos (by omega),bCq hlt,Option.bind_some,cd,drop_cons hlt]
  by_cases c1:ls[i]<0
  .rw[if_pos c1,if_neg (fun g=>by have:=(g _ (List.mem_cons_self ..)).1;omega)]
  rw[if_neg c1,td2 (by omega) hx,cd]
  by_cases c2:ls[i]/2>v
  .rw[if_pos c2,if_neg (fun g=>by have:=(g _ (List.mem_cons_self ..)).2;omega)]
  rw[if_neg c2,hw,bAn.loop0 hn hr m (i+1) (by omega)]
  by_cases c3:∀l∈ls.drop (i+1),litN v l
  .rw[if_pos c3,if_pos (List.forall_mem_cons.2 ⟨⟨by omega,by omega⟩,c3⟩)]
  .rw[if_neg c3,if_neg (fun g=>c3 (List.forall_mem_cons.1 g).2)]
theorem bAn.loop1{M:List Bool}(hI:0<=I)(hM:M.length=n+1)(hn:n<=1000)(hf:(f:Int)=1+I+Ls.length)(hN:f+As.length<=1001){b1:Int}{o5 o6 o7 o8:List (List Int)}:∀(m k:Nat),k+m=n ->
  bAn.l1 (n:Int) ((k+1:Nat):Int) I Ls As Bs Cs b1 M (rowM M (n+1) k) (cntM M k:Int) o5 o6 o7 o8=bAn.l2 (f:Int) As (As.length:Int) 0 b1 M (rowM M (n+1) n) (cntM M n:Int) o5 o6 o7 o8
 |0,k,hk=>by
  have:k=n:=by omega
  subst this
  have w1:IntKind.wrap .i64 (1+I)=1+I:=by rw[wr]<;>omega
  have w2:IntKind.wrap .i64 (1+I+(Ls.length:Int))=(f:Int):=by rw[wr]<;>omega
  rw[bAn.l1_eq,cd,if_neg (by omega),w1,w2]
 |m+1,k,hk=>by
  have i1:k+1<(rowM M (n+1) k).length:=by rw[bHq];omega
  have i2:k+1<M.length:=by omega
  have hc:=bLk (M:=M) (a:=0) (b:=k) (by omega)
  have w1:IntKind.wrap .i64 (((k+1:Nat):Int)+1)=((k+1+1:Nat):Int):=by rw[wr]<;>omega
  rw[cntM]at hc
  have hs:=cMo (M:=M) (N:=n+1) (k:=k)
  rw[<-bAn.loop1 hI hM hn hf hN m (k+1) (by omega),bAn.l1_eq (v13:=((k+1:Nat):Int)),cd,if_pos (by omega),getI i1,Option.bind_some,Int.toNat_natCast,gdI i1,Option.bind_some,getB i2,Option.bind_some,gdB i2,Option.bind_some,w1]
  cases hm:M.getD (k+1) false with
  |true=>
   rw[hm,if_pos rfl]at hs
   have i3:k+1<((rowM M (n+1) k).set (k+1) (-1)).length:=by rw[List.length_set];exact i1
   have w2:IntKind.wrap .i64 ((cntM M k:Int)+1)=(cntM M (k+1):Int):=by rw[cntM,hm,if_pos rfl,wr]<;>omega
   have hc2:=bLk (M:=M) (a:=0) (b:=k+1) (by omega)
   rw[cntM]at hc2
   have w3:IntKind.wrap .i64 (2*(cntM M (k+1):Int))=2*(cntM M (k+1):Int):=by rw[wr]<;>omega
   rw[ct,getI i3,Option.bind_some,gdI i3,Option.bind_some,w2,w3,List.set_set,hs]
  |false=>
   rw[hm,if_neg (by simp)]at hs
   have hcc:cntM M (k+1)=cntM M k:=by rw[cntM,hm];rfl
   rw[cf,hs,hcc]
theorem bNr{M:List Bool}{l:Int}(h0:0<=l)(hl:(l/2).toNat<=n)(hm:(l/2).toNat=0\/M.getD (l/2).toNat false=true):litR (rowM M (n+1) n) l=2*(cntM M (l/2).toNat:Int)+l%2/\cntM M (l/2).toNat<=cntM M n:=by
 refine⟨?_,(bLk hl).1⟩
 unfold litR
 rw[bSz hl hm]
theorem bAn.loop2{M:List Bool}(hM:M.length=n+1)(hn:n<=1000)(hb:bLq f As)(hc:bD3 f As M)(hf:0<f)(hN:f+As.length=n+1){b1:Int}{o4 o5 o6:List (List Int)}:∀(m i:Nat) (cl:List (List Int)),i+m=As.length->cl.length<=3*i ->
  bAn.l2 (f:Int) As (As.length:Int) (i:Int) b1 M (rowM M (n+1) n) (cntM M n:Int) o4 o5 o6 cl=some (((cntM M n:Int),([rowM M (n+1) n],bJf M (rowM M (n+1) n) (f+i) (As.drop i) cl)),0)
 |0,i,cl,hi,hcl=>by
  rw[bAn.l2_eq,cd,if_neg (by omega),List.drop_of_length_le (by omega)];rfl
 |m+1,i,cl,hi,hcl=>by
  have hlt:i<As.length:=by omega
  obtain⟨b1',b2,b3⟩:=hb i hlt
  have hcl':=hc i hlt
  have i1:f+i<M.length:=by omega
  have w1:IntKind.wrap .i64 ((f:Int)+(i:Int))=((f+i:Nat):Int):=by rw[wr]<;>omega
  have w2:IntKind.wrap .i64 ((i:Int)+1)=((i+1:Nat):Int):=by rw[wr]<;>omega
  have hd:As.drop i=As.getD i (0,0)::As.drop (i+1):=by
   rw[drop_cons hlt,List.getD_eq_getElem?_getD,List.getElem?_eq_getElem hlt];rfl
  have hv:okV (cntM M n:Int):=by
   have:=bLk (M:=M) (a:=0) (b:=n) (by omega)
   rw[cntM]at this
   unfold okV;omega
  rw[bAn.l2_eq,cd,if_pos (by omega),getP hlt,Option.bind_some,w1,w2,getB i1,Option.bind_some,Int.toNat_natCast,gdB i1,Option.bind_some,hd,bJf]
  generalize As.getD i (0,0)=x at *
  cases hm:M.getD (f+i) false with
  |false=>
   rw[cnot,cf,if_neg (by simp)]
   exact bAn.loop2 hM hn hb hc hf hN m (i+1) cl (by omega) (by omega)
  |true=>
   obtain⟨c1,c2⟩:=hcl' hm
   have i2:f+i<(rowM M (n+1) n).length:=by rw[bHq];omega
   obtain⟨j1,j2⟩:(rowM M (n+1) n).getD (f+i) 0=2*(cntM M (f+i):Int)/\cntM M (f+i)<=cntM M n:=⟨bSz (by omega) (.inr hm),(bLk (by omega)).1⟩
   have g1:litR (rowM M (n+1) n) (2*((f+i:Nat):Int))=2*(cntM M (f+i):Int):=by
    unfold litR
    rw[show 2*((f+i:Nat):Int)/2=((f+i:Nat):Int) by omega,Int.toNat_natCast,j1];omega
   have g2:litR (rowM M (n+1) n) (2*((f+i:Nat):Int)+1)=2*(cntM M (f+i):Int)+1:=by
    unfold litR
    rw[show(2*((f+i:Nat):Int)+1)/2=((f+i:Nat):Int) by omega,Int.toNat_natCast,j1];omega
   obtain⟨a1,a2⟩:=bNr (n:=n) (M:=M) (l:=x.1) (by omega) (by omega) (.inr c1)
   obtain⟨a3,a4⟩:=bNr (n:=n) (M:=M) (l:=x.2) (by omega) (by omega) (.inr c2)
   have r1:=bSz (M:=M) (n:=n) (w:=(x.1/2).toNat) (by omega) (.inr c1)
   have r2:=bSz (M:=M) (n:=n) (w:=(x.2/2).toNat) (by omega) (.inr c2)
   have t1:=bJ8 (row:=rowM M (n+1) n) (l:=x.1) (by omega) (by rw[bHq];omega) r1 (by obtain⟨_,q⟩:=hv;omega)
   have t2:=bJ8 (row:=rowM M (n+1) n) (l:=x.2) (by omega) (by rw[bHq];omega) r2 (by obtain⟨_,q⟩:=hv;omega)
   have n1:=cD1 (row:=rowM M (n+1) n) (l:=x.1) r1
   have n2:=cD1 (row:=rowM M (n+1) n) (l:=x.2) r2
   obtain⟨v1,v2⟩:=hv
   have x1:bxor .i64 (2*(cntM M (f+i):Int)) 1=litR (rowM M (n+1) n) (2*((f+i:Nat):Int)+1):=by
    rw[bG3 (by omega) (by omega),g2];unfold neg;rw[if_pos (by omega)]
   have x2:bxor .i64 (litR (rowM M (n+1) n) x.1) 1=litR (rowM M (n+1) n) (neg x.1):=by rw[bG3 (by omega) (by omega),n1]
   have x3:bxor .i64 (litR (rowM M (n+1) n) x.2) 1=litR (rowM M (n+1) n) (neg x.2):=by rw[bG3 (by omega) (by omega),n2]
   have y1:0<=litR (rowM M (n+1) n) (neg x.1)/\litR (rowM M (n+1) n) (neg x.1)<=2*(cntM M n:Int)+1:=by rw[n1,a1];unfold neg;split<;>omega
   have y2:0<=litR (rowM M (n+1) n) (neg x.2)/\litR (rowM M (n+1) n) (neg x.2)<=2*(cntM M n:Int)+1:=by rw[n2,a3];unfold neg;split<;>omega
   have m1:∀z∈[litR (rowM M (n+1) n) (2*((f+i:Nat):Int)+1),litR (rowM M (n+1) n) x.1],0<=z/\z<=2*(cntM M n:Int)+1:=fun z hz=>by
    rcases List.mem_cons.1 hz with rfl|hz
    .omega
    .rw[List.mem_singleton]at hz;subst hz;omega
   have m2:∀z∈[litR (rowM M (n+1) n) (2*((f+i:Nat):Int)+1),litR (rowM M (n+1) n) x.2],0<=z/\z<=2*(cntM M n:Int)+1:=fun z hz=>by
    rcases List.mem_cons.1 hz with rfl|hz
    .omega
    .rw[List.mem_singleton]at hz;subst hz;omega
   have m3:∀z∈[litR (rowM M (n+1) n) (2*((f+i:Nat):Int)),litR (rowM M (n+1) n) (neg x.1),litR (rowM M (n+1) n) (neg x.2)],0<=z/\z<=2*(cntM M n:Int)+1:=fun z hz=>by
    rcases List.mem_cons.1 hz with rfl|hz
    .omega
    .rcases List.mem_cons.1 hz with rfl|hz
     .exact y1
     .rw[List.mem_singleton]at hz;subst hz;exact y2
   have q1:=bY9 (cl:=cl) (ls:=[litR (rowM M (n+1) n) (2*((f+i:Nat):Int)+1),litR (rowM M (n+1) n) x.1])
   have q2:=bY9 (cl:=addC cl [litR (rowM M (n+1) n) (2*((f+i:Nat):Int)+1),litR (rowM M (n+1) n) x.1]) (ls:=[litR (rowM M (n+1) n) (2*((f+i:Nat):Int)+1),litR (rowM M (n+1) n) x.2])
   have q3:=bY9 (cl:=addC (addC cl [litR (rowM M (n+1) n) (2*((f+i:Nat):Int)+1),litR (rowM M (n+1) n) x.1]) [litR (rowM M (n+1) n) (2*((f+i:Nat):Int)+1),litR (rowM M (n+1) n) x.2]) (ls:=[litR (rowM M (n+1) n) (2*((f+i:Nat):Int)),litR (rowM M (n+1) n) (neg x.1),litR (rowM M (n+1) n) (neg x.2)])
   rw[cnot,ct,getI i2,Option.bind_some,gdI i2,Option.bind_some,j1,t1,Option.bind_some,t2,Option.bind_some,x1,x2,x3,<-g1,
    bJ9 ⟨v1,v2⟩ (by omega) m1 (by simp),Option.bind_some,bJ9 ⟨v1,v2⟩ (by omega) m2 (by simp),Option.bind_some,bJ9 ⟨v1,v2⟩ (by omega) m3 (by simp),Option.bind_some,if_pos rfl,
    bAn.loop2 hM hn hb hc hf hN m (i+1) _ (by omega) (by omega)]
   rfl
def bCb(I:Int)(Ls:List (Int×Int)):Nat:=(1+I+Ls.length).toNat
def bQz(I:Int)(Ls As:List (Int×Int))(lits:List Int):List Bool:=bNx (bCb I Ls) As As.length (bTb (List.replicate ((size I Ls As).toNat+1) false) lits)
def tsM(I:Int)(Ls As:List (Int×Int))(M:List Bool):Int×List (List Int)×List (List Int):=
 ((cntM M (size I Ls As).toNat:Int),([rowM M ((size I Ls As).toNat+1) (size I Ls As).toNat],bJf M (rowM M ((size I Ls As).toNat+1) (size I Ls As).toNat) (bCb I Ls) As []))
def tsC(I:Int)(Ls As:List (Int×Int))(lits:List Int):Int×List (List Int)×List (List Int):=tsM I Ls As (bQz I Ls As lits)
theorem bLn(h:bCc I Ls As Bs Cs=0):bLq (bCb I Ls) As:=by
 obtain⟨h0,_,g⟩:=bBh h
 intro k hk
 have:=cJ2 g.2.2.2 k hk
 refine⟨this.1,this.2.1,?_⟩
 have:=this.2.2
 unfold bCb
 omega
theorem bXi(h:bGi I Ls As Bs Cs){lits:List Int}(hn:lits.length<=1000)(hr:∀l∈lits,in64 l):
  bAn I Ls As Bs Cs lits=some (if bCc I Ls As Bs Cs=0 then(if ∀l∈lits,litN (size I Ls As) l then(tsC I Ls As lits,0) else((0,([],[])),2)) else((0,([],[])),bCc I Ls As Bs Cs)):=by
 rw[bAn.eq,bHu h,Option.bind_some,cn]
 by_cases c:bCc I Ls As Bs Cs=0
 .have hb:=bLn c
  obtain⟨k1,k2,_⟩:=bBh c
  obtain⟨k2,k3,_⟩:=k2
  have hs:size I Ls As=(((size I Ls As).toNat:Nat):Int):=by unfold size;omega
  have hf:((bCb I Ls:Nat):Int)=1+I+Ls.length:=by unfold bCb;omega
  have hsz:bCb I Ls+As.length=(size I Ls As).toNat+1:=by unfold bCb size;omega
  have hs1:(size I Ls As).toNat<=1000:=by unfold size;omega
  rw[if_pos c,if_pos c]
  have g0:=bAn.loop0 (I:=I) (Ls:=Ls) (As:=As) (Bs:=Bs) (Cs:=Cs) (v:=size I Ls As) (b1:=0) (o2:=[]) (o3:=[]) (show lits.length<=140737488351232 by omega) hr lits.length 0 (by omega)
  rw[show((0:Nat):Int)=0 from rfl,List.drop_zero]at g0
  dsimp only
  rw[if_pos rfl,g0]
  by_cases cl:∀l∈lits,litN (size I Ls As) l
  .rw[if_pos cl,if_pos cl,bAn.l0_eq,cd,if_neg (by omega),hs]
   have w1:IntKind.wrap .i64 ((((size I Ls As).toNat:Nat):Int)+1)=(((size I Ls As).toNat+1:Nat):Int):=by rw[wr]<;>omega
   have hcl:∀l∈lits,0<=l/\l<=1000000/\(l/2).toNat<(size I Ls As).toNat+1:=fun l hl=>by
    have:=cl l hl
    unfold litN at this
    omega
   have c0:=bAm.loop0 (I:=I) (Ls:=Ls) (As:=As) (Bs:=Bs) (Cs:=Cs) (N:=(size I Ls As).toNat+1) hcl hn ⟨k1,by omega⟩ (by omega) ⟨by omega,by omega⟩ lits.length 0 (List.replicate ((size I Ls As).toNat+1) false) (by omega) (List.length_replicate ..)
   rw[show((0:Nat):Int)=0 from rfl,List.drop_zero]at c0
   have c1:=bAm.loop1 (I:=I) (Ls:=Ls) (As:=As) (Bs:=Bs) (Cs:=Cs) hb hf (by omega) As.length (bTb (List.replicate ((size I Ls As).toNat+1) false) lits) (Nat.le_refl _) (by rw[bKs,List.length_replicate];omega)
   rw[hsz]at c1
   have hM:(bQz I Ls As lits).length=(size I Ls As).toNat+1:=by unfold bQz;rw[cA6,bKs,List.length_replicate]
   have hclo:bD3 (bCb I Ls) As (bQz I Ls As lits):=fun k hk ht=>bMe hb (Nat.le_refl _) (by rw[bKs,List.length_replicate];omega) k hk ht
   rw[w1,bPp (by omega) (by omega),Option.bind_some,if_pos rfl,Int.toNat_natCast,bAm.eq,List.length_replicate,c0,c1]
   have hM':bNx (bCb I Ls) As As.length (bTb (List.replicate ((size I Ls As).toNat+1) false) lits)=bQz I Ls As lits:=rfl
   have hnn:(Nat.blt 0 ((size I Ls As).toNat+1)&&Nat.beq ((size I Ls As).toNat+1) ((size I Ls As).toNat+1))=true:=by
    rw[Bool.and_eq_true]
    exact⟨by rw[Nat.blt_eq];omega,Nat.beq_refl _⟩
   rw[Option.bind_some,hM',hM,hnn,ct,bPp (by omega) (by omega),Option.bind_some,if_pos rfl,Int.toNat_natCast]
   have l1:=bAn.loop1 (I:=I) (Ls:=Ls) (As:=As) (Bs:=Bs) (Cs:=Cs) (b1:=0) (o5:=[]) (o6:=[]) (o7:=[]) (o8:=[]) k1 hM hs1 hf (by omega) (size I Ls As).toNat 0 (by omega)
   rw[cJq]at l1
   have l2:=bAn.loop2 (b1:=0) (o4:=[]) (o5:=[]) (o6:=[]) hM hs1 hb hclo (show 0<bCb I Ls by omega) hsz As.length 0 [] (by omega) (by simp)
   rw[List.drop_zero]at l2
   exact l1.trans l2
  .rw[if_neg cl,if_neg cl]
 .rw[if_neg c,if_neg c]
  dsimp only
  rw[if_neg c]
end
section
variable {I:Int} {Ls As:List (Int×Int)} {Bs Cs:List Int} {f n:Nat} {lits:List Int}
theorem tsOf_ok(h:bGi I Ls As Bs Cs)(hn:lits.length<=1000)(hr:∀l∈lits,in64 l)(hc:bCc I Ls As Bs Cs=0)(hl:∀l∈lits,litN (size I Ls As) l){r:Int×List (List Int)×List (List Int)}(e:tsC I Ls As lits=r):bAn I Ls As Bs Cs lits=some (r,0):=by
 rw[bXi h hn hr,if_pos hc,if_pos hl,e]
theorem bCt{s l:Int}:litN s l↔0<=l/\l<=2*s+1:=by unfold litN;omega
def clen(ls:List Int):Nat:=if 1∈ls then 0 else if bQf (big ls)=true then 0 else 1
theorem bN2{cl:List (List Int)}{ls:List Int}:(addC cl ls).length=cl.length+clen ls:=by
 unfold addC clen
 split
 .rfl
 .split
  .rfl
  .simp
theorem bYv{M:List Bool}{ls:List Int}(h:∀l∈ls,0<=l/\(l/2).toNat<=n/\((l/2).toNat=0\/M.getD (l/2).toNat false=true)):clen (ls.map (litR (rowM M (n+1) n)))=clen ls:=by
 have val:∀l∈ls,litR (rowM M (n+1) n) l=2*(cntM M (l/2).toNat:Int)+l%2/\(cntM M (l/2).toNat=0↔l/2=0):=fun l hl=>by
  obtain⟨h1,h2,h3⟩:=h l hl
  refine⟨(bNr h1 h2 h3).1,?_⟩
  by_cases e:(l/2).toNat=0
  .rw[e,cntM];omega
  .rw[bMz (h3.resolve_left e) (by omega)];omega
 have inj:∀x∈ls,∀y∈ls,cntM M (x/2).toNat=cntM M (y/2).toNat->x/2=y/2:=fun x hx y hy e=>by
  obtain⟨x1,x2,x3⟩:=h x hx
  obtain⟨y1,y2,y3⟩:=h y hy
  rcases Nat.lt_trichotomy (x/2).toNat (y/2).toNat with q|q|q
  .have:=cFk (y3.resolve_left (by omega)) q;omega
  .omega
  .have:=cFk (x3.resolve_left (by omega)) q;omega
 have e1:1∈ls.map (litR (rowM M (n+1) n))↔1∈ls:=by
  rw[List.mem_map]
  constructor
  .rintro⟨l,hl,e⟩
   obtain⟨v1,v2⟩:=val l hl
   have h0:=(h l hl).1
   have:l=1:=by
    have:cntM M (l/2).toNat=0:=by omega
    have:=v2.1 this
    omega
   exact this▸hl
  .intro hl
   obtain⟨v1,v2⟩:=val 1 hl
   refine⟨1,hl,?_⟩
   have:=v2.2 (by decide)
   omega
 have bigm:∀x,x∈big (ls.map (litR (rowM M (n+1) n)))↔∃l∈big ls,x=litR (rowM M (n+1) n) l:=fun x=>by
  unfold big
  rw[List.mem_filter,List.mem_map]
  constructor
  .rintro⟨⟨l,hl,rfl⟩,e⟩
   obtain⟨v1,v2⟩:=val l hl
   have h0:=(h l hl).1
   have e:1<litR (rowM M (n+1) n) l:=by simpa using e
   refine⟨l,List.mem_filter.2 ⟨hl,?_⟩,rfl⟩
   rw[decide_eq_true_eq]
   apply Classical.byContradiction
   intro q
   have:=v2.2 (by omega)
   omega
  .rintro⟨l,hl,rfl⟩
   obtain⟨hl,e⟩:=List.mem_filter.1 hl
   obtain⟨v1,v2⟩:=val l hl
   have h0:=(h l hl).1
   have e:1<l:=by simpa using e
   refine⟨⟨l,hl,rfl⟩,?_⟩
   rw[decide_eq_true_eq]
   have:cntM M (l/2).toNat≠0:=fun q=>by have:=v2.1 q;omega
   omega
 have e2:bQf (big (ls.map (litR (rowM M (n+1) n))))=bQf (big ls):=by
  rw[Bool.eq_iff_iff,bG7,bG7]
  constructor
  .rintro⟨x,hx,y,hy,hne,he⟩
   obtain⟨a,ha,rfl⟩:=(bigm x).1 hx
   obtain⟨b,hb,rfl⟩:=(bigm y).1 hy
   have ha':=(List.mem_filter.1 ha).1
   have hb':=(List.mem_filter.1 hb).1
   have va:=(val a ha').1
   have vb:=(val b hb').1
   refine⟨a,ha,b,hb,fun q=>hne (by rw[q]),inj a ha' b hb' ?_⟩
   omega
  .rintro⟨a,ha,b,hb,hne,he⟩
   have ha':=(List.mem_filter.1 ha).1
   have hb':=(List.mem_filter.1 hb).1
   have va:=(val a ha').1
   have vb:=(val b hb').1
   refine⟨_,(bigm _).2 ⟨a,ha,rfl⟩,_,(bigm _).2 ⟨b,hb,rfl⟩,?_,?_⟩
   .rw[va,vb,he];omega
   .rw[va,vb,he];omega
 unfold clen
 rw[e2]
 by_cases q:1∈ls
 .rw[if_pos q,if_pos (e1.2 q)]
 .rw[if_neg q,if_neg (fun w=>q (e1.1 w))]
def glen(g:Int)(x:Int×Int):Nat:=clen [2*g+1,x.1]+clen [2*g+1,x.2]+clen [2*g,neg x.1,neg x.2]
def sumG(M:List Bool):Nat->List (Int×Int)->Nat
 |_,[]=>0
 |g,x::r=>(if M.getD g false=true then glen g x else 0)+sumG M (g+1) r
theorem bWu{M:List Bool}(hb:bLq f As)(hc:bD3 f As M)(hN:f+As.length=n+1):∀(m i:Nat) (cl:List (List Int)),i+m=As.length->(bJf M (rowM M (n+1) n) (f+i) (As.drop i) cl).length=cl.length+sumG M (f+i) (As.drop i)
 |0,i,cl,hi=>by rw[List.drop_of_length_le (by omega)];rfl
 |m+1,i,cl,hi=>by
  have hlt:i<As.length:=by omega
  obtain⟨b1,b2,b3⟩:=hb i hlt
  have hc':=hc i hlt
  have hd:As.drop i=As.getD i (0,0)::As.drop (i+1):=by
   rw[drop_cons hlt,List.getD_eq_getElem?_getD,List.getElem?_eq_getElem hlt];rfl
  rw[hd,bJf,sumG,show f+i+1=f+(i+1) from rfl,bWu hb hc hN m (i+1) _ (by omega)]
  generalize As.getD i (0,0)=x at *
  by_cases hm:M.getD (f+i) false=true
  .obtain⟨c1,c2⟩:=hc' hm
   rw[if_pos hm,if_pos hm]
   have k1:0<=2*((f+i:Nat):Int)/\(2*((f+i:Nat):Int)/2).toNat<=n/\((2*((f+i:Nat):Int)/2).toNat=0\/M.getD (2*((f+i:Nat):Int)/2).toNat false=true):=by
    rw[show(2*((f+i:Nat):Int)/2).toNat=f+i by omega]
    exact⟨by omega,by omega,.inr hm⟩
   have k2:0<=2*((f+i:Nat):Int)+1/\((2*((f+i:Nat):Int)+1)/2).toNat<=n/\(((2*((f+i:Nat):Int)+1)/2).toNat=0\/M.getD ((2*((f+i:Nat):Int)+1)/2).toNat false=true):=by
    rw[show((2*((f+i:Nat):Int)+1)/2).toNat=f+i by omega]
    exact⟨by omega,by omega,.inr hm⟩
   have k3:0<=x.1/\(x.1/2).toNat<=n/\((x.1/2).toNat=0\/M.getD (x.1/2).toNat false=true):=⟨by omega,by omega,.inr c1⟩
   have k4:0<=x.2/\(x.2/2).toNat<=n/\((x.2/2).toNat=0\/M.getD (x.2/2).toNat false=true):=⟨by omega,by omega,.inr c2⟩
   have k5:0<=neg x.1/\(neg x.1/2).toNat<=n/\((neg x.1/2).toNat=0\/M.getD (neg x.1/2).toNat false=true):=by
    rw[bCo];exact⟨by unfold neg;split<;>omega,k3.2⟩
   have k6:0<=neg x.2/\(neg x.2/2).toNat<=n/\((neg x.2/2).toNat=0\/M.getD (neg x.2/2).toNat false=true):=by
    rw[bCo];exact⟨by unfold neg;split<;>omega,k4.2⟩
   have m1:=bYv (n:=n) (M:=M) (ls:=[2*((f+i:Nat):Int)+1,x.1]) (fun l hl=>by
    rcases List.mem_cons.1 hl with rfl|hl
    .exact k2
    .rw[List.mem_singleton]at hl;subst hl;exact k3)
   have m2:=bYv (n:=n) (M:=M) (ls:=[2*((f+i:Nat):Int)+1,x.2]) (fun l hl=>by
    rcases List.mem_cons.1 hl with rfl|hl
    .exact k2
    .rw[List.mem_singleton]at hl;subst hl;exact k4)
   have m3:=bYv (n:=n) (M:=M) (ls:=[2*((f+i:Nat):Int),neg x.1,neg x.2]) (fun l hl=>by
    rcases List.mem_cons.1 hl with rfl|hl
    .exact k1
    .rcases List.mem_cons.1 hl with rfl|hl
     .exact k5
     .rw[List.mem_singleton]at hl;subst hl;exact k6)
   simp only[List.map_cons,List.map_nil]at m1 m2 m3
   unfold cNa glen
   rw[bN2,bN2,bN2,m1,m2,m3]
   omega
  .rw[if_neg hm,if_neg hm];omega
theorem cMx(hc:bCc I Ls As Bs Cs=0)(hl:∀l∈lits,litN (size I Ls As) l):∀l∈lits,(l/2).toNat<(size I Ls As).toNat+1:=fun l h=>by
 have:=hl l h
 unfold litN at this
 omega
end
section
variable {I:Int} {Ls As:List (Int×Int)} {Bs Cs:List Int} {lits:List Int}
end
section
variable {v:Int} {fr cl:List (List Int)}
end
section
def valL(V:List Bool)(l:Int):Bool:=!(V.getD (l/2).toNat false==decide (l%2=1))
theorem bKz{V:List Bool}{l:Int}(h0:0<=l)(h1:l<=1000000)(hi:(l/2).toNat<V.length):bHj V l=some (valL V l):=by
 have hb:(l%2==(1:Int))=decide (l%2=1):=by rw[Bool.eq_iff_iff];simp
 rw[bHj.eq,shr1,show l/2=(((l/2).toNat:Nat):Int) by omega,getB hi,Option.bind_some,cFw h0 (by omega),hb]
 rfl
def bVx:Nat->List (Int×Int)->List Bool->List Bool
 |_,[],V=>V
 |g,x::r,V=>bVx (g+1) r (V.set g (valL V x.1&&valL V x.2))
theorem bXr{V:List Bool}{g j:Nat}{b:Bool}(h:g<V.length):(V.set g b).getD j false=if g=j then b else V.getD j false:=by
 rw[List.getD_eq_getElem?_getD,List.getElem?_set,List.getD_eq_getElem?_getD]
 by_cases e:g=j
 .rw[if_pos e,if_pos h,if_pos e];rfl
 .rw[if_neg e,if_neg e]
theorem cF5{V V':List Bool}{l:Int}(h:V.getD (l/2).toNat false=V'.getD (l/2).toNat false):valL V l=valL V' l:=by unfold valL;rw[h]
section
variable {I:Int} {Ls As:List (Int×Int)} {Bs Cs:List Int} {f n:Nat}
theorem bWz(hb:bLq f As):∀(m i:Nat) (V:List Bool),i+m=As.length->V.length=f+As.length->(bVx (f+i) (As.drop i) V).length=V.length/\(∀j,j<f+i->(bVx (f+i) (As.drop i) V).getD j false=V.getD j false) /\
  ∀k,i<=k->k<As.length->(bVx (f+i) (As.drop i) V).getD (f+k) false=(valL (bVx (f+i) (As.drop i) V) (As.getD k (0,0)).1&&valL (bVx (f+i) (As.drop i) V) (As.getD k (0,0)).2)
 |0,i,V,hi,hV=>by
  rw[List.drop_of_length_le (by omega)]
  exact⟨rfl,fun _ _=>rfl,fun k h1 h2=>by omega⟩
 |m+1,i,V,hi,hV=>by
  have hlt:i<As.length:=by omega
  obtain⟨b1,b2,b3⟩:=hb i hlt
  have hd:As.drop i=As.getD i (0,0)::As.drop (i+1):=by
   rw[drop_cons hlt,List.getD_eq_getElem?_getD,List.getElem?_eq_getElem hlt];rfl
  rw[hd,bVx]
  obtain⟨r1,r2,r3⟩:=bWz hb m (i+1) (V.set (f+i) (valL V (As.getD i (0,0)).1&&valL V (As.getD i (0,0)).2)) (by omega) (by rw[List.length_set];exact hV)
  rw[show f+(i+1)=f+i+1 from rfl]at r1 r2 r3
  refine⟨by rw[r1,List.length_set],fun j hj=>?_,fun k h1 h2=>?_⟩
  .rw[r2 j (by omega),bXr (by omega),if_neg (by omega)]
  .by_cases e:k=i
   .subst e
    have old:∀{l:Int},0<=l->l/2<(f:Int)+k->valL (bVx (f+k+1) (As.drop (k+1)) (V.set (f+k) (valL V (As.getD k (0,0)).1&&valL V (As.getD k (0,0)).2))) l=valL V l:=fun h0 hl=>cF5 (by
     rw[r2 _ (by omega),bXr (by omega),if_neg (by omega)])
    rw[r2 _ (by omega),bXr (by omega),if_pos rfl,old (by omega) (by omega),old (by omega) (by omega)]
   .exact r3 k (by omega) h2
theorem bBr.loop(hb:bLq f As)(hN:f+As.length<=1001):∀(m i:Nat) (V:List Bool),i+m=As.length->V.length=f+As.length ->
  bBr.l0 (f:Int) (As.length:Int) (i:Int) I Ls As Bs Cs V=some (bVx (f+i) (As.drop i) V,0)
 |0,i,V,hi,hV=>by
  rw[bBr.l0_eq,cd,if_neg (by omega),List.drop_of_length_le (by omega)];rfl
 |m+1,i,V,hi,hV=>by
  have hlt:i<As.length:=by omega
  obtain⟨b1,b2,b3⟩:=hb i hlt
  have hd:As.drop i=As.getD i (0,0)::As.drop (i+1):=by
   rw[drop_cons hlt,List.getD_eq_getElem?_getD,List.getElem?_eq_getElem hlt];rfl
  have w1:IntKind.wrap .i64 ((f:Int)+(i:Int))=((f+i:Nat):Int):=by rw[wr]<;>omega
  have w2:IntKind.wrap .i64 ((i:Int)+1)=((i+1:Nat):Int):=by rw[wr]<;>omega
  have i1:f+i<V.length:=by omega
  have ih:=fun b=>bBr.loop hb hN m (i+1) (V.set (f+i) b) (by omega) (by rw[List.length_set];exact hV)
  rw[bBr.l0_eq,cd,if_pos (by omega),getP hlt,Option.bind_some,hd,bVx,w1,w2,getB i1,Int.toNat_natCast,gdB i1]
  generalize As.getD i (0,0)=x at *
  rw[bKz (by omega) (by omega) (by omega),Option.bind_some]
  cases valL V x.1 with
  |true=>
   rw[ct,Option.bind_some,bKz (by omega) (by omega) (by omega),Option.bind_some,Option.bind_some,Option.bind_some,Bool.true_and]
   exact ih _
  |false=>
   rw[cf,Option.bind_some,Option.bind_some,Bool.false_and]
   exact ih _
structure bZb(f n:Nat)(As:List (Int×Int))(V:List Bool):Prop where
 len:V.length=n+1
 zero:V.getD 0 false=false
 gate:∀k,k<As.length->V.getD (f+k) false=(valL V (As.getD k (0,0)).1&&valL V (As.getD k (0,0)).2)
theorem cFj{l ys:List Bool}{off len:Nat}(h:ys.length<=len):cpyL l off len ys=l.take off++ys++l.drop (off+ys.length):=by
 unfold cpyL;rw[List.take_of_length_le h]
structure Corr(M:List Bool)(n:Nat)(W V:List Bool):Prop where
 zero:V.getD 0 false=false
 at_:∀j,1<=j->j<=n->M.getD j false=true->W.getD (cntM M j-1) false=V.getD j false
def sat(W:List Bool)(cl:List (List Int)):Bool:=cl.all fun c=>c.any (bFf W)
theorem cMw{l:Int}{b:Bool}(h:0<=l):(if l%2=1 then !b else b) = !(b==decide (l%2=1)):=by
 by_cases e:l%2=1
 .rw[if_pos e,decide_eq_true e];cases b<;>rfl
 .rw[if_neg e,decide_eq_false e];cases b<;>rfl
theorem bZf{M W V:List Bool}(hc:Corr M n W V){l:Int}(h0:0<=l)(hl:(l/2).toNat<=n)(h1:1<=(l/2).toNat)(hm:M.getD (l/2).toNat false=true):bFf W (litR (rowM M (n+1) n) l)=valL V l:=by
 have hp:=bMz hm h1
 rw[(bNr h0 hl (.inr hm)).1]
 unfold bFf valL
 rw[<-hc.at_ _ h1 hl hm,<-cMw h0,show(2*(cntM M (l/2).toNat:Int)+l%2)%2=l%2 by omega,show((2*(cntM M (l/2).toNat:Int)+l%2)/2-1).toNat=cntM M (l/2).toNat-1 by omega]
theorem any_nrm{W:List Bool}{ls:List Int}:(nrm ls).any (bFf W)=ls.any (bFf W):=by
 rw[Bool.eq_iff_iff,List.any_eq_true,List.any_eq_true]
 constructor
 .rintro⟨x,hx,e⟩;exact⟨x,((bMv ls).2 x).1 hx,e⟩
 .rintro⟨x,hx,e⟩;exact⟨x,((bMv ls).2 x).2 hx,e⟩
theorem bXt{M W V:List Bool}(hc:Corr M n W V){cl:List (List Int)}{ls:List Int}(h:∀l∈ls,0<=l/\(l/2).toNat<=n/\((l/2).toNat=0\/M.getD (l/2).toNat false=true)):sat W (addC cl (ls.map (litR (rowM M (n+1) n))))=(sat W cl&&ls.any (valL V)):=by
 have val:∀l∈ls,litR (rowM M (n+1) n) l=2*(cntM M (l/2).toNat:Int)+l%2/\(cntM M (l/2).toNat=0↔(l/2).toNat=0):=fun l hl=>by
  obtain⟨h1,h2,h3⟩:=h l hl
  refine⟨(bNr h1 h2 h3).1,?_⟩
  by_cases e:(l/2).toNat=0
  .rw[e,cntM]
  .rw[bMz (h3.resolve_left e) (by omega)];omega
 have tr:∀l∈ls,1<litR (rowM M (n+1) n) l->bFf W (litR (rowM M (n+1) n) l)=valL V l:=fun l hl h1=>by
  obtain⟨g1,g2,g3⟩:=h l hl
  obtain⟨v1,v2⟩:=val l hl
  have hne:(l/2).toNat≠0:=fun e=>by have:=v2.2 e;omega
  exact bZf hc g1 g2 (by omega) (g3.resolve_left hne)
 have bigm:∀x,x∈big (ls.map (litR (rowM M (n+1) n)))↔∃l∈ls,x=litR (rowM M (n+1) n) l/\1<x:=fun x=>by
  unfold big
  rw[List.mem_filter,List.mem_map,decide_eq_true_eq]
  constructor
  .rintro⟨⟨l,hl,rfl⟩,e⟩;exact⟨l,hl,rfl,e⟩
  .rintro⟨l,hl,rfl,e⟩;exact⟨⟨l,hl,rfl⟩,e⟩
 unfold addC
 by_cases q1:1∈ls.map (litR (rowM M (n+1) n))
 .rw[if_pos q1]
  obtain⟨l,hl,e⟩:=List.mem_map.1 q1
  obtain⟨v1,v2⟩:=val l hl
  have h0:=(h l hl).1
  have hz:(l/2).toNat=0:=v2.1 (by omega)
  have hv:valL V l=true:=by
   unfold valL
   rw[hz,hc.zero,decide_eq_true (by omega)];rfl
  rw[List.any_eq_true.2 ⟨l,hl,hv⟩,Bool.and_true]
 .rw[if_neg q1]
  by_cases q2:bQf (big (ls.map (litR (rowM M (n+1) n))))=true
  .rw[if_pos q2]
   obtain⟨x,hx,y,hy,hne,he⟩:=bG7.1 q2
   obtain⟨a,ha,rfl,ha1⟩:=(bigm x).1 hx
   obtain⟨b,hb,rfl,hb1⟩:=(bigm y).1 hy
   have t1:=tr a ha ha1
   have t2:=tr b hb hb1
   have va:=(val a ha).1
   have vb:=(val b hb).1
   have hsum:ls.any (valL V)=true:=by
    cases hva:valL V a with
    |true=>exact List.any_eq_true.2 ⟨a,ha,hva⟩
    |false=>
     refine List.any_eq_true.2 ⟨b,hb,?_⟩
     have hbn:litR (rowM M (n+1) n) b=neg (litR (rowM M (n+1) n) a):=by unfold neg;split<;>omega
     rw[<-t2,hbn,bN8 (by omega),t1,hva];rfl
   rw[hsum,Bool.and_true]
  .rw[if_neg q2]
   unfold sat
   rw[List.all_append,List.all_cons,List.all_nil,Bool.and_true,any_nrm]
   congr 1
   rw[Bool.eq_iff_iff,List.any_eq_true,List.any_eq_true]
   constructor
   .rintro⟨x,hx,e⟩
    obtain⟨l,hl,rfl,h1⟩:=(bigm x).1 hx
    exact⟨l,hl,by rw[<-tr l hl h1];exact e⟩
   .rintro⟨l,hl,e⟩
    obtain⟨v1,v2⟩:=val l hl
    have h0:=(h l hl).1
    have h1:1<litR (rowM M (n+1) n) l:=by
     apply Classical.byContradiction
     intro q
     have hz:(l/2).toNat=0:=v2.1 (by omega)
     have hl0:litR (rowM M (n+1) n) l≠1:=fun w=>q1 (List.mem_map.2 ⟨l,hl,w⟩)
     unfold valL at e
     rw[hz,hc.zero,decide_eq_false (by rw[v1]at hl0 q;omega)]at e
     cases e
    exact⟨_,(bigm _).2 ⟨l,hl,rfl,h1⟩,by rw[tr l hl h1];exact e⟩
def cM9(V:List Bool)(g:Int)(x:Int×Int):Bool:=[2*g+1,x.1].any (valL V)&&[2*g+1,x.2].any (valL V)&&[2*g,neg x.1,neg x.2].any (valL V)
def bWt(M V:List Bool):Nat->List (Int×Int)->Bool
 |_,[]=>true
 |g,x::r=>(if M.getD g false=true then cM9 V g x else true)&&bWt M V (g+1) r
theorem bZr{M W V:List Bool}(hc:Corr M n W V)(hb:bLq f As)(hcl:bD3 f As M)(hN:f+As.length=n+1):∀(m i:Nat) (cl:List (List Int)),i+m=As.length->sat W (bJf M (rowM M (n+1) n) (f+i) (As.drop i) cl)=(sat W cl&&bWt M V (f+i) (As.drop i))
 |0,i,cl,hi=>by rw[List.drop_of_length_le (by omega),bJf,bWt,Bool.and_true]
 |m+1,i,cl,hi=>by
  have hlt:i<As.length:=by omega
  obtain⟨b1,b2,b3⟩:=hb i hlt
  have hc':=hcl i hlt
  have hd:As.drop i=As.getD i (0,0)::As.drop (i+1):=by
   rw[drop_cons hlt,List.getD_eq_getElem?_getD,List.getElem?_eq_getElem hlt];rfl
  rw[hd,bJf,bWt,show f+i+1=f+(i+1) from rfl,bZr hc hb hcl hN m (i+1) _ (by omega),<-Bool.and_assoc]
  congr 1
  generalize As.getD i (0,0)=x at *
  by_cases hm:M.getD (f+i) false=true
  .obtain⟨c1,c2⟩:=hc' hm
   rw[if_pos hm,if_pos hm]
   have k1:0<=2*((f+i:Nat):Int)/\(2*((f+i:Nat):Int)/2).toNat<=n/\((2*((f+i:Nat):Int)/2).toNat=0\/M.getD (2*((f+i:Nat):Int)/2).toNat false=true):=by
    rw[show(2*((f+i:Nat):Int)/2).toNat=f+i by omega]
    exact⟨by omega,by omega,.inr hm⟩
   have k2:0<=2*((f+i:Nat):Int)+1/\((2*((f+i:Nat):Int)+1)/2).toNat<=n/\(((2*((f+i:Nat):Int)+1)/2).toNat=0\/M.getD ((2*((f+i:Nat):Int)+1)/2).toNat false=true):=by
    rw[show((2*((f+i:Nat):Int)+1)/2).toNat=f+i by omega]
    exact⟨by omega,by omega,.inr hm⟩
   have k3:0<=x.1/\(x.1/2).toNat<=n/\((x.1/2).toNat=0\/M.getD (x.1/2).toNat false=true):=⟨by omega,by omega,.inr c1⟩
   have k4:0<=x.2/\(x.2/2).toNat<=n/\((x.2/2).toNat=0\/M.getD (x.2/2).toNat false=true):=⟨by omega,by omega,.inr c2⟩
   have k5:0<=neg x.1/\(neg x.1/2).toNat<=n/\((neg x.1/2).toNat=0\/M.getD (neg x.1/2).toNat false=true):=by
    rw[bCo];exact⟨by unfold neg;split<;>omega,k3.2⟩
   have k6:0<=neg x.2/\(neg x.2/2).toNat<=n/\((neg x.2/2).toNat=0\/M.getD (neg x.2/2).toNat false=true):=by
    rw[bCo];exact⟨by unfold neg;split<;>omega,k4.2⟩
   have m1:=fun cl=>bXt hc (cl:=cl) (ls:=[2*((f+i:Nat):Int)+1,x.1]) (fun l hl=>by
    rcases List.mem_cons.1 hl with rfl|hl
    .exact k2
    .rw[List.mem_singleton]at hl;subst hl;exact k3)
   have m2:=fun cl=>bXt hc (cl:=cl) (ls:=[2*((f+i:Nat):Int)+1,x.2]) (fun l hl=>by
    rcases List.mem_cons.1 hl with rfl|hl
    .exact k2
    .rw[List.mem_singleton]at hl;subst hl;exact k4)
   have m3:=fun cl=>bXt hc (cl:=cl) (ls:=[2*((f+i:Nat):Int),neg x.1,neg x.2]) (fun l hl=>by
    rcases List.mem_cons.1 hl with rfl|hl
    .exact k1
    .rcases List.mem_cons.1 hl with rfl|hl
     .exact k5
     .rw[List.mem_singleton]at hl;subst hl;exact k6)
   simp only[List.map_cons,List.map_nil]at m1 m2 m3
   unfold cNa cM9
   rw[m3,m2,m1,Bool.and_assoc,Bool.and_assoc,Bool.and_assoc]
  .rw[if_neg hm,if_neg hm,Bool.and_true]
theorem cDd{V:List Bool}{l:Int}:valL V (neg l) = !valL V l:=by
 unfold valL
 rw[bCo]
 unfold neg
 by_cases e:l%2=0
 .rw[if_pos e,decide_eq_true (show(l+1)%2=1 by omega),decide_eq_false (show ¬l%2=1 by omega)]
  cases V.getD (l/2).toNat false<;>rfl
 .rw[if_neg e,decide_eq_false (show ¬(l-1)%2=1 by omega),decide_eq_true (show l%2=1 by omega)]
  cases V.getD (l/2).toNat false<;>rfl
theorem cM8{V:List Bool}{g:Nat}{x:Int×Int}:cM9 V (g:Int) x=(V.getD g false==(valL V x.1&&valL V x.2)):=by
 have e1:valL V (2*(g:Int))=V.getD g false:=by
  unfold valL
  rw[show(2*(g:Int)/2).toNat=g by omega,decide_eq_false (show ¬(2*(g:Int))%2=1 by omega)]
  cases V.getD g false<;>rfl
 have e2:valL V (2*(g:Int)+1) = !V.getD g false:=by
  unfold valL
  rw[show((2*(g:Int)+1)/2).toNat=g by omega,decide_eq_true (show(2*(g:Int)+1)%2=1 by omega)]
  cases V.getD g false<;>rfl
 unfold cM9
 simp only[List.any_cons,List.any_nil,e1,e2,cDd]
 cases V.getD g false<;>cases valL V x.1<;>cases valL V x.2<;>rfl
theorem bTs{M V:List Bool}(hA:∀k,k<As.length->V.getD (f+k) false=(valL V (As.getD k (0,0)).1&&valL V (As.getD k (0,0)).2)):∀(m i:Nat),i+m=As.length->bWt M V (f+i) (As.drop i)=true
 |0,i,hi=>by rw[List.drop_of_length_le (by omega)];rfl
 |m+1,i,hi=>by
  have hlt:i<As.length:=by omega
  have hd:As.drop i=As.getD i (0,0)::As.drop (i+1):=by
   rw[drop_cons hlt,List.getD_eq_getElem?_getD,List.getElem?_eq_getElem hlt];rfl
  rw[hd,bWt,cM8,hA i hlt,show f+i+1=f+(i+1) from rfl,bTs hA m (i+1) (by omega)]
  split<;>simp
theorem okC_nrm{v:Int}{ls:List Int}(h:∀x∈ls,x<=2*v+1)(ht:bQf (big ls)≠true):okC v (nrm (big ls)):=by
 obtain⟨n1,n2⟩:=bMv (big ls)
 constructor
 .intro l hl
  obtain⟨g1,g2⟩:=List.mem_filter.1 ((n2 l).1 hl)
  have:=h l g1
  have:1<l:=by simpa using g2
  exact⟨by omega,by omega⟩
 .refine n1.imp_of_mem fun {a b} ha hb hab=>?_
  have hne:a/2≠b/2:=fun e=>ht (bG7.2 ⟨a,(n2 a).1 ha,b,(n2 b).1 hb,by omega,e⟩)
  omega
theorem bX7{v:Int}{cl:List (List Int)}{ls:List Int}(hcl:okL v cl)(h:∀x∈ls,x<=2*v+1):okL v (addC cl ls):=by
 unfold addC
 split
 .exact hcl
 .split
  .exact hcl
  .rename_i ht
   intro c hc
   rcases List.mem_append.1 hc with q|q
   .exact hcl c q
   .rw[List.mem_singleton]at q;subst q;exact okC_nrm h ht
theorem bQt{M:List Bool}{l:Int}(h0:0<=l)(hl:(l/2).toNat<=n)(hm:(l/2).toNat=0\/M.getD (l/2).toNat false=true):litR (rowM M (n+1) n) l<=2*(cntM M n:Int)+1:=by
 obtain⟨a,b⟩:=bNr h0 hl hm
 omega
theorem bZ7{M:List Bool}(hb:bLq f As)(hcl:bD3 f As M)(hN:f+As.length=n+1):∀(m i:Nat) (cl:List (List Int)),i+m=As.length->okL (cntM M n:Int) cl->okL (cntM M n:Int) (bJf M (rowM M (n+1) n) (f+i) (As.drop i) cl)
 |0,i,cl,hi,h=>by rw[List.drop_of_length_le (by omega)];exact h
 |m+1,i,cl,hi,h=>by
  have hlt:i<As.length:=by omega
  obtain⟨b1,b2,b3⟩:=hb i hlt
  have hc':=hcl i hlt
  have hd:As.drop i=As.getD i (0,0)::As.drop (i+1):=by
   rw[drop_cons hlt,List.getD_eq_getElem?_getD,List.getElem?_eq_getElem hlt];rfl
  rw[hd,bJf,show f+i+1=f+(i+1) from rfl]
  refine bZ7 hb hcl hN m (i+1) _ (by omega) ?_
  generalize As.getD i (0,0)=x at *
  split
  .rename_i hm
   obtain⟨c1,c2⟩:=hc' hm
   have k1:=bQt (n:=n) (M:=M) (l:=2*((f+i:Nat):Int)) (by omega) (by omega) (.inr (by rw[show(2*((f+i:Nat):Int)/2).toNat=f+i by omega];exact hm))
   have k2:=bQt (n:=n) (M:=M) (l:=2*((f+i:Nat):Int)+1) (by omega) (by omega) (.inr (by rw[show((2*((f+i:Nat):Int)+1)/2).toNat=f+i by omega];exact hm))
   have k3:=bQt (n:=n) (M:=M) (l:=x.1) (by omega) (by omega) (.inr c1)
   have k4:=bQt (n:=n) (M:=M) (l:=x.2) (by omega) (by omega) (.inr c2)
   have k5:=bQt (n:=n) (M:=M) (l:=neg x.1) (by unfold neg;split<;>omega) (by rw[bCo];omega) (.inr (by rw[bCo];exact c1))
   have k6:=bQt (n:=n) (M:=M) (l:=neg x.2) (by unfold neg;split<;>omega) (by rw[bCo];omega) (.inr (by rw[bCo];exact c2))
   unfold cNa
   refine bX7 (bX7 (bX7 h ?_) ?_) ?_
   .intro z hz
    rcases List.mem_cons.1 hz with rfl|hz
    .exact k2
    .rw[List.mem_singleton]at hz;subst hz;exact k3
   .intro z hz
    rcases List.mem_cons.1 hz with rfl|hz
    .exact k2
    .rw[List.mem_singleton]at hz;subst hz;exact k4
   .intro z hz
    rcases List.mem_cons.1 hz with rfl|hz
    .exact k1
    .rcases List.mem_cons.1 hz with rfl|hz
     .exact k5
     .rw[List.mem_singleton]at hz;subst hz;exact k6
  .exact h
end
end
section
def wOf(M V:List Bool):Nat->List Bool
 |0=>[]
 |k+1=>if M.getD (k+1) false=true then wOf M V k++[V.getD (k+1) false] else wOf M V k
theorem cBr{M V:List Bool}:∀k,(wOf M V k).length=cntM M k
 |0=>rfl
 |k+1=>by
  rw[wOf,cntM]
  split
  .rw[List.length_append,cBr k];rfl
  .rw[cBr k];rfl
theorem wOf_at{M V:List Bool}:∀k j,1<=j->j<=k->M.getD j false=true->(wOf M V k).getD (cntM M j-1) false=V.getD j false
 |0,j,j1,j2,_=>by omega
 |k+1,j,j1,j2,j3=>by
  have hp:=bMz j3 (by omega)
  have hl:=cBr (M:=M) (V:=V) k
  rw[wOf]
  by_cases e:j=k+1
  .subst e
   rw[if_pos j3,List.getD_eq_getElem?_getD,List.getElem?_append_right (by rw[hp,hl];simp),hp,hl]
   simp
  .have ih:=wOf_at (M:=M) (V:=V) k j j1 (by omega) j3
   have hle:=(bLk (M:=M) (a:=j) (b:=k) (by omega)).1
   split
   .rw[List.getD_eq_getElem?_getD,List.getElem?_append_left (by omega),<-List.getD_eq_getElem?_getD]
    exact ih
   .exact ih
section
variable {I:Int} {Ls As:List (Int×Int)} {Bs Cs:List Int}
theorem never.step{bud v y j:Int}{i:Nat}{ls A R:List Int}{L:List (List Int)}(hi:i<ls.length)(hn:ls.length<=2)(hy:ls.getD i 0=y)(h0:0<=y/\y<=1000000)(hr:(y/2).toNat<R.length)
  (hj:R.getD (y/2).toNat 0=2*j) (hj2:0<=j/\j<=1000000) (hz:y<=1->j=0) (hA:A.length<=10) :
  bBg.l0 bud (ls.length:Int) (i:Int) v A ls [R] L=if litR R y=0 then some (true,0) else bBg.l0 bud (ls.length:Int) ((i+1:Nat):Int) v (if 1<litR R y then A++[litR R y] else A) ls [R] L:=by
 have e:=bJ8 (row:=R) h0 hr hj hj2
 have hw:IntKind.wrap .i64 ((i:Int)+1)=((i+1:Nat):Int):=by rw[wr]<;>omega
 have hg:=getI hi
 have hg2:=gdI hi
 rw[hy]at hg hg2
 rw[bFs.eq,bZc h0.1 h0.2,getI hr,Option.bind_some,Option.some.injEq]at e
 rw[bBg.l0_eq,cd,if_pos (by omega),hg,Option.bind_some,Int.toNat_natCast,hg2,Option.bind_some,cd]
 by_cases h1:y>1
 .rw[if_pos h1,show geti [R] 0=some R from rfl,Option.bind_some,show([R]:List (List Int))[Int.toNat 0]?=some R from rfl,Option.bind_some,bZc h0.1 h0.2,getI hr,Option.bind_some,e,ce]
  by_cases h2:litR R y=0
  .rw[if_pos h2,if_pos h2]
  .rw[if_neg h2,if_neg h2,cd]
   by_cases h3:litR R y>1
   .rw[if_pos h3,if_pos (show 1<litR R y from h3),bCi (by simp;omega),Option.bind_some,hw]
   .rw[if_neg h3,if_neg (show ¬1<litR R y from h3),hw]
 .have hl:litR R y=y:=by
   unfold litR
   rw[hj,hz (by omega)]
   omega
  rw[if_neg h1,hl,ce]
  by_cases h2:y=0
  .rw[if_pos h2,if_pos h2]
  .rw[if_neg h2,if_neg h2,cd,if_neg h1,if_neg (show ¬1<y from h1),hw]
theorem cKb{bud v:Int}{ls A:List Int}{rs L:List (List Int)}:bBg.l0 bud (ls.length:Int) (ls.length:Int) v A ls rs L=(bGy v L A bud).bind fun r=>if r.2=0 then some (!r.1.1,0) else some (false,r.2):=by
 rw[bBg.l0_eq,cd,if_neg (by omega)]
 congr 1
 funext r
 rw[cn]
theorem cG7{M:List Bool}{f n:Nat}(hb:bLq f As)(hcl:bD3 f As M)(hN:f+As.length=n+1):(bJf M (rowM M (n+1) n) f As []).length<=3*As.length:=by
 have g:=bWu (M:=M) hb hcl hN As.length 0 [] (by omega)
 rw[List.drop_zero]at g
 simp only[Nat.add_zero]at g
 have le1:∀ls,clen ls<=1:=fun ls=>by unfold clen;split<;>(try split)<;>omega
 have le2:∀(r:List (Int×Int)) (a:Nat),sumG M a r<=3*r.length:=fun r=>by
  induction r with
  |nil=>intro a;simp[sumG]
  |cons x r ih=>
   intro a
   have h:=ih (a+1)
   have q1:=le1 [2*(a:Int)+1,x.1]
   have q2:=le1 [2*(a:Int)+1,x.2]
   have q3:=le1 [2*(a:Int),neg x.1,neg x.2]
   rw[sumG,List.length_cons]
   unfold glen
   split<;>omega
 have:=le2 As f
 rw[g,List.length_nil]
 omega
theorem bWo(h:bGi I Ls As Bs Cs)(hc:bCc I Ls As Bs Cs=0){a b bud:Int}(ha:litN (size I Ls As) a)(hbl:litN (size I Ls As) b)(hbud:0<=bud/\bud<=100000):
  ∃(is:Bool) (e:Int),bBg I Ls As Bs Cs a b bud=some (is,e)/\(e=0->is=true->∀V,bZb (bCb I Ls) (size I Ls As).toNat As V->¬(valL V a=true/\valL V b=true)):=by
 have hb:=bLn hc
 obtain⟨k1,k2,_⟩:=bBh hc
 obtain⟨k2,k3,_⟩:=k2
 have hf:((bCb I Ls:Nat):Int)=1+I+Ls.length:=by unfold bCb;omega
 have hsz:bCb I Ls+As.length=(size I Ls As).toNat+1:=by unfold bCb size;omega
 have hs0:0<=size I Ls As:=by unfold size;omega
 have hs1:(size I Ls As).toNat<=1000:=by unfold size;omega
 have hl:∀l∈[a,b],litN (size I Ls As) l:=fun l hl=>by
  rcases List.mem_cons.1 hl with rfl|hl
  .exact ha
  .rw[List.mem_singleton]at hl;subst hl;exact hbl
 have hr:∀l∈[a,b],in64 l:=fun l hm=>by have:=bCt.1 (hl l hm);unfold in64;omega
 have hof:=tsOf_ok h (lits:=[a,b]) (by simp) hr hc hl rfl
 have clo:bD3 (bCb I Ls) As (bQz I Ls As [a,b]):=fun k hk ht=>bMe hb (Nat.le_refl _) (by rw[bKs,List.length_replicate];omega) k hk ht
 have hmark:∀l∈[a,b],(bQz I Ls As [a,b]).getD (l/2).toNat false=true:=fun l hm=>by
  refine bSg hb (Nat.le_refl _) (by rw[bKs,List.length_replicate];omega) _ ?_
  rw[cAe (List.length_replicate ..) (cMx hc hl),decide_eq_true ⟨l,hm,rfl⟩,Bool.true_or]
 have hcn:=bLk (M:=bQz I Ls As [a,b]) (a:=0) (b:=(size I Ls As).toNat) (by omega)
 rw[cntM]at hcn
 have hv:okV (cntM (bQz I Ls As [a,b]) (size I Ls As).toNat:Int):=⟨by omega,by omega⟩
 have hL:=bZ7 (M:=bQz I Ls As [a,b]) hb clo hsz As.length 0 [] (by omega) (fun c h=>by cases h)
 have hlen:=cG7 (M:=bQz I Ls As [a,b]) hb clo hsz
 have hsat:=fun(W V:List Bool) (hco:Corr (bQz I Ls As [a,b]) (size I Ls As).toNat W V)=>bZr hco hb clo hsz As.length 0 [] (by omega)
 simp only[List.drop_zero,Nat.add_zero]at hL hsat
 rw[bBg.eq,hof,Option.bind_some]
 unfold tsC tsM
 dsimp only
 generalize bQz I Ls As [a,b]=M at *
 rw[cn,if_pos rfl]
 have hrow:=fun l (hm:l∈[a,b])=>bNr (n:=(size I Ls As).toNat) (M:=M) (l:=l) (bCt.1 (hl l hm)).1 (by have:=bCt.1 (hl l hm);omega) (.inr (hmark l hm))
 have hst:∀(l:Int) (i:Nat) (A:List Int),i<[a,b].length->[a,b].getD i 0=l->l∈[a,b]->A.length<=10->_:=fun l i A hi hg hm hA=>
  never.step (bud:=bud) (v:=(cntM M (size I Ls As).toNat:Int)) (L:=bJf M (rowM M ((size I Ls As).toNat+1) (size I Ls As).toNat) (bCb I Ls) As []) (R:=rowM M ((size I Ls As).toNat+1) (size I Ls As).toNat) (j:=(cntM M (l/2).toNat:Int)) hi (by simp) hg
   ⟨(bCt.1 (hl l hm)).1,by have:=bCt.1 (hl l hm);omega⟩ (by rw[bHq];have:=bCt.1 (hl l hm);omega)
   (bSz (by have:=bCt.1 (hl l hm);omega) (.inr (hmark l hm))) ⟨by omega,by have:=(hrow l hm).2;omega⟩ (fun h1=>by
    have h0:=(bCt.1 (hl l hm)).1
    rw[show(l/2).toNat=0 by omega];rfl) hA
 have s0:=hst a 0 [] (by simp) rfl (by simp) (by simp)
 have s1:=fun A hA=>hst b 1 A (by simp) rfl (by simp) hA
 rw[show((0:Nat):Int)=0 from rfl]at s0
 have ra:=(hrow a (by simp)).1
 have rb:=(hrow b (by simp)).1
 -- a literal that is no new one
 have hone:∀l∈[a,b],litR (rowM M ((size I Ls As).toNat+1) (size I Ls As).toNat) l<=1->(l/2).toNat=0:=fun l hm h1=>by
  apply Classical.byContradiction
  intro hne
  have:=bMz (hmark l hm) (by omega)
  have h0:=(bCt.1 (hl l hm)).1
  rw[(hrow l hm).1]at h1
  omega
 have hzero:∀l∈[a,b],litR (rowM M ((size I Ls As).toNat+1) (size I Ls As).toNat) l=0->∀V,bZb (bCb I Ls) (size I Ls As).toNat As V->valL V l=false:=fun l hm h1 V hV=>by
  have hj:=hone l hm (by omega)
  have h0:=(bCt.1 (hl l hm)).1
  have:=(hrow l hm).1
  unfold valL
  rw[hj,hV.zero,decide_eq_false (by omega)];rfl
 rw[s0]
 by_cases z0:litR (rowM M ((size I Ls As).toNat+1) (size I Ls As).toNat) a=0
 .rw[if_pos z0]
  exact⟨_,_,rfl,fun _ _ V hV hh=>by rw[hzero a (by simp) z0 V hV]at hh;cases hh.1⟩
 rw[if_neg z0,s1 _ (by split<;>simp)]
 by_cases z1:litR (rowM M ((size I Ls As).toNat+1) (size I Ls As).toNat) b=0
 .rw[if_pos z1]
  exact⟨_,_,rfl,fun _ _ V hV hh=>by rw[hzero b (by simp) z1 V hV]at hh;cases hh.2⟩
 rw[if_neg z1]
 generalize hAe:(if 1<litR (rowM M ((size I Ls As).toNat+1) (size I Ls As).toNat) b then(if 1<litR (rowM M ((size I Ls As).toNat+1) (size I Ls As).toNat) a then[]++[litR (rowM M ((size I Ls As).toNat+1) (size I Ls As).toNat) a] else[])++[litR (rowM M ((size I Ls As).toNat+1) (size I Ls As).toNat) b] else(if 1<litR (rowM M ((size I Ls As).toNat+1) (size I Ls As).toNat) a then[]++[litR (rowM M ((size I Ls As).toNat+1) (size I Ls As).toNat) a] else[]))=A
 have hAm:∀z∈A,∃l∈[a,b],z=litR (rowM M ((size I Ls As).toNat+1) (size I Ls As).toNat) l/\1<z:=fun z hz=>by
  rw[<-hAe]at hz
  split at hz
  .rename_i g2
   rcases List.mem_append.1 hz with hz|hz
   .split at hz
    .rename_i g1
     rw[List.nil_append,List.mem_singleton]at hz
     exact⟨a,by simp,hz,by omega⟩
    .cases hz
   .rw[List.mem_singleton]at hz
    exact⟨b,by simp,hz,by omega⟩
  .split at hz
   .rename_i g1
    rw[List.nil_append,List.mem_singleton]at hz
    exact⟨a,by simp,hz,by omega⟩
   .cases hz
 have hAl:A.length<=2:=by rw[<-hAe];split<;>split<;>simp
 have hA64:∀z∈A,in64 z:=fun z hz=>by
  obtain⟨l,hm,rfl,h1⟩:=hAm z hz
  have:=hrow l hm
  unfold in64
  omega
 obtain⟨x,e,e1,e2⟩:=bV3 (A:=A) (L:=bJf M (rowM M ((size I Ls As).toNat+1) (size I Ls As).toNat) (bCb I Ls) As []) (b:=bud) hv hbud hL (by have:=k3;omega) hA64
 have hend:=cKb (bud:=bud) (v:=(cntM M (size I Ls As).toNat:Int)) (ls:=[a,b]) (A:=A) (rs:=[rowM M ((size I Ls As).toNat+1) (size I Ls As).toNat]) (L:=bJf M (rowM M ((size I Ls As).toNat+1) (size I Ls As).toNat) (bCb I Ls) As [])
 rw[show(((1:Nat)+1:Nat):Int)=(([a,b]:List Int).length:Int) from rfl,hend,e1,Option.bind_some]
 dsimp only
 by_cases he:e=0
 .rw[if_pos he]
  refine⟨_,_,rfl,fun _ hi V hV hh=>?_⟩
  obtain⟨_,f1,_⟩:=e2 he
  have hx:x.1=false:=by cases hx:x.1 with
   |true=>rw[hx]at hi;cases hi
   |false=>rfl
  refine f1 hx (wOf M V (size I Ls As).toNat) ?_
  have hco:Corr M (size I Ls As).toNat (wOf M V (size I Ls As).toNat) V:=⟨hV.zero,fun j j1 j2 j3=>wOf_at _ j j1 j2 j3⟩
  intro c hcm
  rcases List.mem_append.1 hcm with hcm|hcm
  .refine(bJz.2 fun z hz=>?_) c hcm
   obtain⟨l,hm,rfl,h1⟩:=hAm z hz
   have hln:=bCt.1 (hl l hm)
   have h1l:1<=(l/2).toNat:=by
    apply Classical.byContradiction
    intro hne
    rw[(hrow l hm).1,show(l/2).toNat=0 by omega,cntM]at h1
    omega
   rw[bZf hco hln.1 (by omega) h1l (hmark l hm)]
   rcases List.mem_cons.1 hm with rfl|hm
   .exact hh.1
   .rw[List.mem_singleton]at hm;subst hm;exact hh.2
  .have ht:=bTs (M:=M) (f:=bCb I Ls) hV.gate As.length 0 (by omega)
   rw[List.drop_zero]at ht
   have:=(hsat _ _ hco).trans ht
   unfold sat at this
   exact List.all_eq_true.1 this c hcm
 .rw[if_neg he]
  exact⟨_,_,rfl,fun h=>absurd h he⟩
end
end
section
def lvF(val:Nat->Bool)(x:Int):Bool:=!(val (x/2).toNat==decide (x%2=1))
theorem bQ8(val:Nat->Bool)(k:Nat):lvF val (2*(k:Int))=val k:=by
 unfold lvF
 have h1:(2*(k:Int)/2).toNat=k:=by omega
 have h2:decide (2*(k:Int)%2=1)=false:=decide_eq_false (by omega)
 rw[h1,h2];cases val k<;>rfl
theorem cCg(val:Nat->Bool)(k:Nat):lvF val (2*(k:Int)+1) = !val k:=by
 unfold lvF
 have h1:((2*(k:Int)+1)/2).toNat=k:=by omega
 have h2:decide ((2*(k:Int)+1)%2=1)=true:=decide_eq_true (by omega)
 rw[h1,h2];cases val k<;>rfl
theorem lit_cases{x:Int}(h:0<=x):∃k:Nat,x=2*(k:Int)\/x=2*(k:Int)+1:=⟨(x/2).toNat,by omega⟩
theorem negI_even(k:Nat):negI (2*(k:Int))=2*(k:Int)+1:=by unfold negI;rw[if_pos (by omega)]
theorem negI_odd(k:Nat):negI (2*(k:Int)+1)=2*(k:Int):=by unfold negI;rw[if_neg (by omega)];omega
theorem lvF_neg{val:Nat->Bool}{x:Int}(h:0<=x):lvF val (negI x) = !lvF val x:=by
 obtain⟨k,rfl|rfl⟩:=lit_cases h
 .rw[negI_even,cCg,bQ8]
 .rw[negI_odd,bQ8,cCg,Bool.not_not]
theorem lvF_negBy{val:Nat->Bool}{t x:Int}(h:0<=t):lvF val (bS7 t x)=if x%2=0 then lvF val t else !lvF val t:=by
 unfold bS7
 split
 .rfl
 .exact lvF_neg h
theorem lvF_at{val val':Nat->Bool}{t:List Int}{x:Int}(h0:0<=x)(ht:0<=t.getD (x/2).toNat 0)(h:lvF val' (t.getD (x/2).toNat 0)=val (x/2).toNat):lvF val' (atT t x)=lvF val x:=by
 unfold atT
 rw[lvF_negBy ht,h]
 obtain⟨k,rfl|rfl⟩:=lit_cases h0
 .rw[if_pos (by omega),bQ8];congr 1;omega
 .rw[if_neg (by omega),cCg];congr 2;omega
theorem bTd{val val':Nat->Bool}{x:Int}(h:val (x/2).toNat=val' (x/2).toNat):lvF val x=lvF val' x:=by unfold lvF;rw[h]
def AgF(gate:Nat)(ands:LP)(val:Nat->Bool):Prop:=val 0=false/\∀(k:Nat) (p:Int×Int),ands[k]?=some p->val (gate+k)=(lvF val p.1&&lvF val p.2)
theorem AgF.pre{gate:Nat}{a b:LP}{val:Nat->Bool}(h:AgF gate b val)(hp:a<+:b):AgF gate a val:=by
 obtain⟨r,rfl⟩:=hp
 refine⟨h.1,fun k p hk=>h.2 k p ?_⟩
 rw[List.getElem?_append_left (List.getElem?_eq_some_iff.1 hk).1]
 exact hk
theorem andS_val{val:Nat->Bool}(hz:val 0=false){x y v:Int}(hx:0<=x)(hy:0<=y)(h:andS x y=some v):lvF val v=(lvF val x&&lvF val y):=by
 have z0:lvF val 0=false:=by have:=bQ8 val 0;rw[hz]at this;exact this
 have z1:lvF val 1=true:=by have:=cCg val 0;rw[hz]at this;exact this
 unfold andS at h
 split at h
 .rename_i hc
  cases h
  rw[z0]
  rcases hc with rfl|rfl|rfl
  .rw[z0];rfl
  .rw[z0,Bool.and_false]
  .rw[lvF_neg hy];cases lvF val y<;>rfl
 .split at h
  .rename_i hc
   cases h
   rcases hc with rfl|rfl
   .rw[z1];rfl
   .rw[Bool.and_self]
  .split at h
   .rename_i hc
    cases h;subst hc
    rw[z1,Bool.and_true]
   .cases h
theorem known_val{gate:Nat}{ands:LP}{val:Nat->Bool}(h:AgF gate ands val){z:Int×Int}{c:Int}(hk:bDq (2*(gate:Int)) ands z=some c):lvF val c=(lvF val z.1&&lvF val z.2):=by
 obtain⟨k,k1,rfl,k3⟩:=bRh _ _ _ _ hk
 rw[show 2*(gate:Int)+2*(k:Int)=2*((gate+k:Nat):Int) by omega,bQ8]
 exact h.2 k z k3
theorem cL1{val:Nat->Bool}(x y:Int):(lvF val (max x y)&&lvF val (min x y))=(lvF val x&&lvF val y):=by
 rcases Int.le_total x y with h|h
 .rw[Int.max_eq_right h,Int.min_eq_left h,Bool.and_comm]
 .rw[Int.max_eq_left h,Int.min_eq_right h]
theorem andB_pre(g:Int)(ands:LP)(x y:Int):ands<+:(andB g ands x y).2:=by
 unfold andB
 cases andS x y with
 |some v=>exact List.prefix_refl _
 |none=>
  cases bDq g ands (max x y,min x y) with
  |some c=>exact List.prefix_refl _
  |none=>exact List.prefix_append _ _
theorem andB_val{gate:Nat}{ands:LP}{val:Nat->Bool}{x y:Int}(hx:0<=x)(hy:0<=y)(h:AgF gate (andB (2*(gate:Int)) ands x y).2 val):lvF val (andB (2*(gate:Int)) ands x y).1=(lvF val x&&lvF val y):=by
 unfold andB at h ⊢
 cases hs:andS x y with
 |some v=>exact andS_val h.1 hx hy hs
 |none=>
  rw[hs]at h
  simp only at h ⊢
  cases hk:bDq (2*(gate:Int)) ands (max x y,min x y) with
  |some c=>
   rw[hk]at h
   rw[known_val h hk]
   exact cL1 x y
  |none=>
   rw[hk]at h
   simp only at h ⊢
   rw[show 2*(gate:Int)+2*(ands.length:Int)=2*((gate+ands.length:Nat):Int) by omega,bQ8,h.2 ands.length (max x y,min x y) (by simp)]
   exact cL1 x y
section
variable {gate N:Nat} {As:LP} {g:List Int}
abbrev tol(gate:Nat)(As:LP)(g:List Int)(n:Nat):List Int:=(runB (2*(gate:Int)) gate As g n).1
abbrev bld(gate:Nat)(As:LP)(g:List Int)(n:Nat):LP:=(runB (2*(gate:Int)) gate As g n).2
theorem runB_pre1(n:Nat):∃x,tol gate As g (n+1)=tol gate As g n++[x]:=by
 unfold tol
 simp only[runB,bVj]
 split
 .exact⟨_,rfl⟩
 .split
  .exact⟨_,rfl⟩
  .exact⟨_,rfl⟩
theorem runB_pre2 (n : Nat) : bld gate As g n <+: bld gate As g (n + 1) := by
  unfold bld
  simp only [runB, bVj]
  split
  · exact List.prefix_refl _
  · split
    · exact List.prefix_refl _
    · exact andB_pre _ _ _ _
theorem runB_preN {n m : Nat} (h : n ≤ m) : bld gate As g n <+: bld gate As g m ∧ tol gate As g n <+: tol gate As g m := by
  induction m with
  | zero => obtain rfl : n = 0 := by omega
            exact ⟨List.prefix_refl _, List.prefix_refl _⟩
  | succ m ih =>
    by_cases e : n = m + 1
    · subst e; exact ⟨List.prefix_refl _, List.prefix_refl _⟩
    · obtain ⟨h1, h2⟩ := ih (by omega)
      obtain ⟨x, hx⟩ := runB_pre1 (gate := gate) (As := As) (g := g) m
      exact ⟨h1.trans (runB_pre2 m), h2.trans (by rw [hx]; exact List.prefix_append _ _)⟩
theorem bQ7 {a b : List Int} (h : a <+: b) {k : Nat} (hk : k < a.length) : b.getD k 0 = a.getD k 0 := by
  obtain ⟨r, rfl⟩ := h
  simp only [List.getD_eq_getElem?_getD]
  rw [List.getElem?_append_left hk]
theorem build_val(hK:BOk N gate As g){val val':Nat->Bool}(hv:AgF gate As val)(hg:∀v,v<N->0<=g.getD v 0->val v=lvF val (g.getD v 0))(hlow:∀u,u<gate->val' u=val u)(hv':AgF gate (bld gate As g N) val'):
  ∀n,n<=N->∀v,v<n->lvF val' ((tol gate As g n).getD v 0)=val v:=by
 intro n
 induction n with
 |zero=>intro _ v hv;omega
 |succ n ih=>
  intro hn v hvn
  have htb:=bSy hK n (by omega)
  have hlen:(tol gate As g n).length=n:=bDw _ _ _ _ n
  have ihn:=ih (by omega)
  by_cases e:v<n
  .rw[bQ7 (runB_preN (by omega:n<=n+1)).2 (by omega)]
   exact ihn v e
  .have ev:v=n:=by omega
   subst ev
   have hat:∀x:Int,0<=x->x/2<(v:Int)->lvF val' (atT (tol gate As g v) x)=lvF val x/\0<=atT (tol gate As g v) x:=fun x h0 h1=>by
    obtain⟨q1,q2⟩:=htb.lit (x/2).toNat (by omega)
    exact⟨lvF_at h0 q1 (ihn _ (by omega)),(htb.at h0 h1).1⟩
   have hpre:=hv'.pre ((runB_preN (gate:=gate) (As:=As) (g:=g) hn).1)
   unfold tol bld at *
   simp only[runB,bVj]at hpre ⊢
   rw[bDw]at hpre ⊢
   by_cases h1:0<=g.getD v 0
   .rw[if_pos h1]
    simp only[bJ5,bDw,Nat.lt_irrefl,if_false,if_true]
    have h2:=(hK.giv v (by omega)).1
    rw[(hat _ h1 (by omega)).1]
    exact(hg v (by omega) h1).symm
   .rw[if_neg h1]at hpre ⊢
    by_cases h2:v<gate
    .rw[if_pos h2]
     simp only[bJ5,bDw,Nat.lt_irrefl,if_false,if_true]
     rw[bQ8];exact hlow v h2
    .rw[if_neg h2]at hpre ⊢
     simp only at hpre ⊢
     simp only[bJ5,bDw,Nat.lt_irrefl,if_false,if_true]
     have hk:v-gate<As.length:=by have:=hK.len;omega
     have hp:As[v-gate]?=some (As.getD (v-gate) (0,0)):=by rw[List.getElem?_eq_getElem hk];simp[List.getD,List.getElem?_eq_getElem hk]
     obtain⟨q0,q1,q2⟩:=hK.gates _ _ hp
     have e9:(gate:Int)+((v-gate:Nat):Int)=v:=by omega
     rw[e9]at q2
     have a1:=hat (As.getD (v-gate) (0,0)).1 (by omega) q2
     have a2:=hat (As.getD (v-gate) (0,0)).2 q0 (by omega)
     rw[andB_val a1.2 a2.2 hpre,a1.1,a2.1]
     have:=hv.2 _ _ hp
     rw[show gate+(v-gate)=v by omega]at this
     exact this.symm
theorem build_at(hK:BOk N gate As g){val val':Nat->Bool}(hv:AgF gate As val)(hg:∀v,v<N->0<=g.getD v 0->val v=lvF val (g.getD v 0))(hlow:∀u,u<gate->val' u=val u)(hv':AgF gate (bld gate As g N) val'){x:Int}(h0:0<=x)(h1:x/2<(N:Int)):
  lvF val' (atT (tol gate As g N) x)=lvF val x:=
 lvF_at h0 ((bSy hK N (Nat.le_refl _)).lit _ (by omega)).1 (build_val hK hv hg hlow hv' N (Nat.le_refl _) _ (by omega))
theorem cBd(hK:BOk N gate As g):∀n,n<=N->(∀v,v<n->0<=(tol gate As g n).getD v 0/\(tol gate As g n).getD v 0/2<((gate+(bld gate As g n).length:Nat):Int)) /\
  ∀(k:Nat) (p:Int×Int),(bld gate As g n)[k]?=some p->0<=p.2/\p.2<p.1/\p.1/2<((gate+k:Nat):Int):=by
 intro n
 induction n with
 |zero=>intro _;exact⟨fun v h=>by omega,fun k p h=>by simp[bld,runB]at h⟩
 |succ n ih=>
  intro hn
  obtain⟨ih1,ih2⟩:=ih (by omega)
  have hlen:(tol gate As g n).length=n:=bDw _ _ _ _ n
  have hat:∀x:Int,0<=x->x/2<(n:Int)->0<=atT (tol gate As g n) x/\atT (tol gate As g n) x/2<((gate+(bld gate As g n).length:Nat):Int):=fun x h0 h1=>by
   obtain⟨q1,q2⟩:=ih1 (x/2).toNat (by omega)
   unfold atT bS7
   split
   .exact⟨q1,q2⟩
   .unfold negI
    split<;>omega
  have old:∀(m:Nat),(bld gate As g n).length<=m->∀v,v<n->0<=(tol gate As g n).getD v 0/\(tol gate As g n).getD v 0/2<((gate+m:Nat):Int):=fun m hm v hv=>by
   obtain⟨q1,q2⟩:=ih1 v hv
   exact⟨q1,by omega⟩
  unfold tol bld at *
  simp only[runB,bVj]
  rw[bDw]
  have snoc:∀(m:Nat) (x:Int),(runB (2*(gate:Int)) gate As g n).2.length<=m->0<=x/\x/2<((gate+m:Nat):Int)->∀v,v<n+1->0<=((runB (2*(gate:Int)) gate As g n).1++[x]).getD v 0/\((runB (2*(gate:Int)) gate As g n).1++[x]).getD v 0/2<((gate+m:Nat):Int):=fun m x hm hx v hv=>by
   rw[bJ5,hlen]
   by_cases e:v<n
   .rw[if_pos e];exact old m hm v e
   .rw[if_neg e,if_pos (by omega)];exact hx
  by_cases h1:0<=g.getD n 0
  .rw[if_pos h1]
   have h2:=(hK.giv n (by omega)).1
   exact⟨snoc _ _ (Nat.le_refl _) (hat _ h1 (by omega)),ih2⟩
  .rw[if_neg h1]
   by_cases h2:n<gate
   .rw[if_pos h2]
    exact⟨snoc _ _ (Nat.le_refl _) (by omega),ih2⟩
   .rw[if_neg h2]
    simp only
    have hk:n-gate<As.length:=by have:=hK.len;omega
    have hp:As[n-gate]?=some (As.getD (n-gate) (0,0)):=by rw[List.getElem?_eq_getElem hk];simp[List.getD,List.getElem?_eq_getElem hk]
    obtain⟨q0,q1,q2⟩:=hK.gates _ _ hp
    have e9:(gate:Int)+((n-gate:Nat):Int)=n:=by omega
    rw[e9]at q2
    have a1:=hat (As.getD (n-gate) (0,0)).1 (by omega) q2
    have a2:=hat (As.getD (n-gate) (0,0)).2 q0 (by omega)
    generalize atT (runB (2*(gate:Int)) gate As g n).1 (As.getD (n-gate) (0,0)).1=x at a1 ⊢
    generalize atT (runB (2*(gate:Int)) gate As g n).1 (As.getD (n-gate) (0,0)).2=y at a2 ⊢
    unfold andB
    cases hs:andS x y with
    |some v=>
     refine⟨snoc _ _ (Nat.le_refl _) ?_,ih2⟩
     unfold andS at hs
     split at hs
     .cases hs;have:=hK.pos;constructor<;>simp only[]<;>omega
     .split at hs
      .cases hs;exact a2
      .split at hs
       .cases hs;exact a1
       .cases hs
    |none=>
     obtain⟨_,_,_,_,hne,_⟩:=bMn hs
     simp only[]
     cases hkn:bDq (2*(gate:Int)) (runB (2*(gate:Int)) gate As g n).2 (max x y,min x y) with
     |some c=>
      obtain⟨k,k1,k2,_⟩:=bRh _ _ _ _ hkn
      refine⟨snoc _ _ (Nat.le_refl _) (by simp only[];omega),ih2⟩
     |none=>
      refine⟨snoc _ _ (by simp) (by simp only[List.length_append,List.length_singleton];omega),fun k p hp=>?_⟩
      rcases Nat.lt_or_ge k (runB (2*(gate:Int)) gate As g n).2.length with hlt|hge
      .rw[List.getElem?_append_left hlt]at hp
       exact ih2 k p hp
      .rw[List.getElem?_append_right hge]at hp
       have:k-(runB (2*(gate:Int)) gate As g n).2.length=0:=by
        rcases Nat.eq_zero_or_pos (k-(runB (2*(gate:Int)) gate As g n).2.length) with h|h
        .exact h
        .rw[List.getElem?_eq_none (by simp;omega)]at hp;cases hp
       rw[this]at hp
       simp at hp
       subst hp
       simp only[]
       omega
theorem cLh(hK:BOk N gate As g):(bld gate As g N).length<=As.length:=by
 have:=(bSy hK N (Nat.le_refl _)).ands
 have:=hK.len
 unfold bld
 omega
end
end
section
abbrev U(x:Int):BitVec 64:=BitVec.ofInt 64 x
abbrev w64(x:Int):Prop:=0<=x/\x<18446744073709551616
theorem wrU{x:Int}(h:w64 x):IntKind.wrap .u64 x=x:=by rw[IntKind.wrap_u64];omega
theorem wrU_in(x:Int):w64 (IntKind.wrap .u64 x):=by rw[IntKind.wrap_u64];omega
theorem bS8(b:BitVec 64):w64 (b.toNat:Int):=⟨Int.natCast_nonneg _,by have:=b.isLt;omega⟩
theorem bT9(a b:Int):band .u64 a b=((U a&&&U b).toNat:Int):=wrU (bS8 (U a&&&U b))
theorem bW9(a b:Int):bxor .u64 a b=((U a^^^U b).toNat:Int):=wrU (bS8 (U a^^^U b))
theorem cF1{x:Int}(h:w64 x):((U x).toNat:Int)=x:=by
 show((BitVec.ofInt 64 x).toNat:Int)=x
 rw[BitVec.toNat_ofInt]
 omega
theorem cLw(b:BitVec 64):U (b.toNat:Int)=b:=by
 apply BitVec.eq_of_toNat_eq
 have:=cF1 (bS8 b)
 omega
def inM(a x:Int):Prop:=w64 x/\U x&&&U a=U x
theorem inM.band{a x y:Int}(h:inM a x)(h':inM a y):inM a (band .u64 x y):=by
 refine⟨by rw[bT9];exact bS8 _,?_⟩
 rw[bT9,cLw,BitVec.and_assoc,h'.2]
theorem inM.not{a x:Int}(h:inM a x):Go.Proofs.YtjkoadoekaplpaaGreat.R.band .u64 (Go.Proofs.YtjkoadoekaplpaaGreat.R.bxor .u64 (IntKind.max .u64) x) a=Go.Proofs.YtjkoadoekaplpaaGreat.R.bxor .u64 x a/\inM a (Go.Proofs.YtjkoadoekaplpaaGreat.R.bxor .u64 x a):=by
 have hb:∀i,((U x).getLsbD i&&(U a).getLsbD i)=(U x).getLsbD i:=fun i=>by
  have:=congrArg (fun b:BitVec 64=>b.getLsbD i) h.2
  simpa using this
 have hm:U (IntKind.max .u64)=BitVec.allOnes 64:=by decide
 refine⟨?_,by rw[bW9];exact bS8 _,?_⟩
 .rw[bT9,bW9,bW9,cLw,hm]
  congr 2
  apply BitVec.eq_of_getLsbD_eq
  intro i hi
  have:=hb i
  simp only[BitVec.getLsbD_and,BitVec.getLsbD_xor,BitVec.getLsbD_allOnes,hi,decide_true]
  revert this
  cases (U x).getLsbD i<;>cases (U a).getLsbD i<;>simp
 .rw[bW9,cLw]
  apply BitVec.eq_of_getLsbD_eq
  intro i hi
  have:=hb i
  simp only[BitVec.getLsbD_and,BitVec.getLsbD_xor]
  revert this
  cases (U x).getLsbD i<;>cases (U a).getLsbD i<;>simp
theorem inM.zero{a:Int}:inM a 0:=⟨by decide,by
 show(BitVec.ofInt 64 0)&&&U a=BitVec.ofInt 64 0
 simp⟩
theorem inM.full{x:Int}(h:w64 x):inM 18446744073709551615 x:=⟨h,by
 have hm:U 18446744073709551615=BitVec.allOnes 64:=by decide
 rw[hm];exact BitVec.and_allOnes⟩
def bDc(m:Nat):Int:=if 6<=m then 18446744073709551615 else IntKind.wrap .u64 (bshl .u64 1 (bshl .u64 1 (m:Int))-1)
def pats:List Int:=[12297829382473034410,14757395258967641292,17361641481138401520,18374966859414961920,18446462603027742720,18446744069414584320]
def stepS(v s i:Int):Int:=bor .u64 s (bshl .u64 (IntKind.wrap .u64 (band .i64 (bshr .i64 i (IntKind.wrap .i64 (v-1))) 1)) i)
def foldS(v:Int):Nat->Nat->Int->Int
 |0,_,s=>s
 |n+1,i,s=>foldS v n (i+1) (stepS v s (i:Int))
def okSmall:Bool:=(List.range 7).all fun m=>(List.range m).all fun k=>decide (foldS ((k+1:Nat):Int) (2^m) 0 0=band .u64 (pats.getD k 0) (bDc m))&&decide (U (band .u64 (pats.getD k 0) (bDc m))&&&U (bDc m)=U (band .u64 (pats.getD k 0) (bDc m)))
theorem bZ6:okSmall=true:=by decide +kernel
theorem cMh{m k:Nat}(hm:m<=6)(hk:k<m):foldS ((k+1:Nat):Int) (2^m) 0 0=band .u64 (pats.getD k 0) (bDc m)/\inM (bDc m) (band .u64 (pats.getD k 0) (bDc m)):=by
 have:=List.all_eq_true.1 bZ6 m (List.mem_range.2 (by omega))
 have:=List.all_eq_true.1 this k (List.mem_range.2 hk)
 rw[Bool.and_eq_true,decide_eq_true_iff,decide_eq_true_iff]at this
 exact⟨this.1,by rw[bT9];exact bS8 _,this.2⟩
def lin(x:Int):Int:=IntKind.wrap .u64 (IntKind.wrap .u64 (x*6364136223846793005)+1442695040888963407)
def linS:Nat->Int
 |0=>1
 |n+1=>lin (linS n)
def inp(m k:Nat):Int:=if m<=6 then band .u64 (pats.getD k 0) (bDc m) else linS (k+1)
def inL(m:Nat):Nat->List Int
 |0=>[0]
 |k+1=>inL m k++[inp m k]
theorem bKd(m:Nat):∀k,(inL m k).length=k+1
 |0=>rfl
 |k+1=>by simp[inL,bKd m k]
theorem inp_in{m k:Nat}(hk:k<m):inM (bDc m) (inp m k):=by
 unfold inp
 by_cases h:m<=6
 .rw[if_pos h];exact(cMh h hk).2
 .rw[if_neg h]
  unfold bDc
  rw[if_pos (by omega)]
  exact inM.full (wrU_in _)
theorem cD5{m:Nat}:∀k,k<=m->∀x∈inL m k,inM (bDc m) x
 |0,_,x,hx=>by simp only[inL,List.mem_singleton]at hx;subst hx;exact inM.zero
 |k+1,hk,x,hx=>by
  rcases List.mem_append.1 hx with h|h
  .exact cD5 k (by omega) x h
  .rw[List.mem_singleton]at h;subst h;exact inp_in (by omega)
theorem cDk{P:List Int}{k:Nat}{x:Int}:(P++List.replicate (k+1) 0).set P.length x=(P++[x])++List.replicate k 0:=by
 rw[List.set_append_right _ _ (Nat.le_refl _),Nat.sub_self,List.replicate_succ,List.set_cons_zero,List.append_assoc]
 rfl
theorem U_ext{x y:Int}(hx:w64 x)(hy:w64 y)(h:U x=U y):x=y:=by rw[<-cF1 hx,<-cF1 hy,h]
theorem cNu(x y:Int)(i:Nat):(U (band .u64 x y)).getLsbD i=((U x).getLsbD i&&(U y).getLsbD i):=by rw[bT9,cLw,BitVec.getLsbD_and]
theorem bP6(x y:Int)(i:Nat):(U (bxor .u64 x y)).getLsbD i=((U x).getLsbD i ^^ (U y).getLsbD i):=by rw[bW9,cLw,BitVec.getLsbD_xor]
def bGa(a:Int)(s:List Int)(l:Int):Int:=if l%2=1 then bxor .u64 (s.getD (l/2).toNat 0) a else s.getD (l/2).toNat 0
def sigs(a:Int):List Int->LP->List Int
 |P,[]=>P
 |P,p::r=>sigs a (P++[band .u64 (bGa a P p.1) (bGa a P p.2)]) r
theorem bSm{a:Int}{s s':List Int}{l:Int}(h:s.getD (l/2).toNat 0=s'.getD (l/2).toNat 0):bGa a s l=bGa a s' l:=by unfold bGa;rw[h]
theorem inM.lit{a:Int}{s:List Int}(h:∀x∈s,inM a x){l:Int}(hl:(l/2).toNat<s.length):inM a (bGa a s l):=by
 have hx:inM a (s.getD (l/2).toNat 0):=by
  rw[List.getD_eq_getElem?_getD,List.getElem?_eq_getElem hl]
  exact h _ (List.getElem_mem hl)
 unfold bGa
 split
 .exact hx.not.2
 .exact hx
theorem bPf{a:Int}:∀(As:LP) (g:Nat) (P:List Int),P.length=g->(∀x∈P,inM a x)->okG (g:Int) As=true ->
  P<+:sigs a P As/\(sigs a P As).length=g+As.length/\(∀x∈sigs a P As,inM a x)/\∀(k:Nat) (p:Int×Int),As[k]?=some p->(sigs a P As).getD (g+k) 0=band .u64 (bGa a (sigs a P As) p.1) (bGa a (sigs a P As) p.2)
 |[],g,P,hP,hi,ho=>⟨List.prefix_refl _,by simpa[sigs]using hP,hi,fun k p h=>by simp at h⟩
 |p::r,g,P,hP,hi,ho=>by
  unfold okG at ho
  simp only[Bool.and_eq_true,decide_eq_true_eq]at ho
  obtain⟨⟨⟨o1,o2⟩,o3⟩,o4⟩:=ho
  have b1:=inM.lit hi (l:=p.1) (by omega)
  have b2:=inM.lit hi (l:=p.2) (by omega)
  obtain⟨q1,q2,q3,q4⟩:=bPf r (g+1) (P++[band .u64 (bGa a P p.1) (bGa a P p.2)]) (by simp[hP]) (fun x hx=>by
   rcases List.mem_append.1 hx with hx|hx
   .exact hi x hx
   .rw[List.mem_singleton]at hx;subst hx;exact b1.band b2) (by push_cast;exact o4)
  have e:sigs a P (p::r)=sigs a (P++[band .u64 (bGa a P p.1) (bGa a P p.2)]) r:=rfl
  rw[e]
  generalize hS:sigs a (P++[band .u64 (bGa a P p.1) (bGa a P p.2)]) r=S at q1 q2 q3 q4 ⊢
  have hpre:P<+:S:=(List.prefix_append _ _).trans q1
  have hlow:∀j,j<g->S.getD j 0=P.getD j 0:=fun j hj=>bQ7 hpre (by omega)
  refine⟨hpre,by rw[q2,List.length_cons];omega,q3,fun k z hk=>?_⟩
  cases k with
  |zero=>
   simp only[List.getElem?_cons_zero,Option.some.injEq]at hk
   subst hk
   have h0:S.getD (g+0) 0=band .u64 (bGa a P p.1) (bGa a P p.2):=by
    rw[bQ7 q1 (by simp[hP])]
    simp[List.getD_eq_getElem?_getD,<-hP]
   rw[h0,bSm (s:=S) (s':=P) (hlow _ (by omega)),bSm (s:=S) (s':=P) (hlow _ (by omega))]
  |succ k=>
   have:=q4 k z (by simpa using hk)
   rw[show g+(k+1)=g+1+k by omega]
   exact this
def bitF(s:List Int)(i:Nat)(v:Nat):Bool:=(U (s.getD v 0)).getLsbD i
theorem bY0{a:Int}{s:List Int}{i:Nat}(ha:(U a).getLsbD i=true)(l:Int):(U (bGa a s l)).getLsbD i=lvF (bitF s i) l:=by
 unfold bGa lvF bitF
 by_cases h:l%2=1
 .rw[if_pos h,bP6,ha,decide_eq_true h];cases (U (s.getD (l/2).toNat 0)).getLsbD i<;>rfl
 .rw[if_neg h,decide_eq_false h];cases (U (s.getD (l/2).toNat 0)).getLsbD i<;>rfl
theorem U0(i:Nat):(U 0).getLsbD i=false:=by
 have:U 0=0#64:=by decide
 rw[this];simp
theorem sigs_Ag{a:Int}{As:LP}{g:Nat}{P:List Int}(hP:P.length=g)(hg:1<=g)(hz:P.getD 0 0=0)(hi:∀x∈P,inM a x)(ho:okG (g:Int) As=true){i:Nat}(ha:(U a).getLsbD i=true):AgF g As (bitF (sigs a P As) i):=by
 obtain⟨q1,q2,q3,q4⟩:=bPf As g P hP hi ho
 refine⟨?_,fun k p hk=>?_⟩
 .unfold bitF
  rw[bQ7 q1 (by omega),hz,U0]
 .have h1:=q4 k p hk
  have h2:bitF (sigs a P As) i (g+k)=(U (band .u64 (bGa a (sigs a P As) p.1) (bGa a (sigs a P As) p.2))).getLsbD i:=by unfold bitF;rw[h1]
  rw[h2,cNu,bY0 ha,bY0 ha]
def odd0(x:Int):Bool:=(U x).getLsbD 0
theorem cBm(x:Int):bits BinOp.and IntKind.u64 x 1=if odd0 x=true then 1 else 0:=by
 have h1:bits BinOp.and IntKind.u64 x 1=band .u64 x 1:=rfl
 have h2:U 1=1#64:=by decide
 rw[h1,bT9,h2]
 unfold odd0
 have h3:(U x&&&1#64)=if(U x).getLsbD 0=true then 1#64 else 0#64:=by
  apply BitVec.eq_of_getLsbD_eq
  intro i hi
  rw[BitVec.getLsbD_and]
  by_cases h0:i=0
  .subst h0
   cases (U x).getLsbD 0<;>simp
  .have:(1#64).getLsbD i=false:=by simp[BitVec.getLsbD_one];omega
   rw[this]
   split<;>simp[BitVec.getLsbD_one,h0]
 rw[h3]
 split<;>rfl
theorem cFa{a x:Int}(h:inM a x):bGx a x=if odd0 x=true then bxor .u64 x a else x:=by
 unfold bGx
 rw[cBm]
 cases odd0 x with
 |true=>rw[if_pos rfl,if_pos rfl,if_pos rfl];exact h.not.1
 |false=>simp
theorem bMi{a x:Int}(h:inM a x)(ha:w64 a):bxor .u64 (bxor .u64 x a) a=x:=by
 refine U_ext (by rw[bW9];exact bS8 _) h.1 (BitVec.eq_of_getLsbD_eq fun i hi=>?_)
 rw[bP6,bP6]
 cases (U x).getLsbD i<;>cases (U a).getLsbD i<;>rfl
theorem bZ8{a x:Int}(ha:odd0 a=true):odd0 (bxor .u64 x a) = !odd0 x:=by
 unfold odd0 at *
 rw[bP6,ha];cases (U x).getLsbD 0<;>rfl
theorem cKy{a x y:Int}(hx:inM a x)(hy:inM a y)(ha:odd0 a=true)(wa:w64 a):bGx a x=bGx a y↔x=y\/x=bxor .u64 y a:=by
 rw[cFa hx,cFa hy]
 constructor
 .intro h
  cases ox:odd0 x<;>cases oy:odd0 y<;>simp only[ox,oy,if_true,Bool.false_eq_true,if_false]at h
  .exact .inl h
  .exact .inr h
  .rw[<-h,bMi hx wa];exact .inr rfl
  .have:=congrArg (fun z=>bxor .u64 z a) h
   simp only[bMi hx wa,bMi hy wa]at this
   exact .inl this
 .rintro(rfl|rfl)
  .rfl
  .rw[bZ8 ha]
   cases oy:odd0 y
   .simp only[Bool.not_false,if_true,Bool.false_eq_true,if_false];exact bMi hy wa
   .simp
theorem cKi{s:List Int}{k:Nat}{x:Int}:litG s (k:Int) x=2*(k:Int)+if(odd0 (s.getD k 0) ^^ odd0 x)=true then 1 else 0:=by
 unfold litG
 rw[cBm,Int.toNat_natCast]
 have:odd0 (bits BinOp.xor IntKind.u64 (s.getD k 0) x)=(odd0 (s.getD k 0) ^^ odd0 x):=bP6 (s.getD k 0) x 0
 rw[this]
theorem bQu{s:List Int}{k:Nat}{x:Int}:2*(k:Int)<=litG s (k:Int) x/\litG s (k:Int) x<=2*(k:Int)+1:=by
 rw[cKi];split<;>omega
theorem cKh{a:Int}{s:List Int}{k:Nat}{x:Int}(hs:inM a (s.getD k 0))(hx:inM a x)(ha:odd0 a=true)(wa:w64 a)(h:bGx a (s.getD k 0)=bGx a x):bGa a s (litG s (k:Int) x)=x:=by
 rw[cKi]
 rcases(cKy hs hx ha wa).1 h with h1|h1
 .rw[h1,Bool.xor_self,if_neg (by decide)]
  unfold bGa
  rw[if_neg (by omega),show((2*(k:Int)+0)/2).toNat=k by omega,h1]
 .have:(odd0 (s.getD k 0) ^^ odd0 x)=true:=by rw[h1,bZ8 ha];cases odd0 x<;>rfl
  rw[this,if_pos rfl]
  unfold bGa
  rw[if_pos (by omega),show((2*(k:Int)+1)/2).toNat=k by omega,h1,bMi hx wa]
section
variable {all:Int} {gate:Nat} {nv:Int->Int->Option (Bool×Int)} {s:List Int}
def Gv(all:Int)(gate:Nat)(nv:Int->Int->Option (Bool×Int))(s:List Int)(v:Nat)(x:Int):Prop:=
 (v<gate/\x = -1)\/(gate<=v/\(∀u,u<v->bGx all (s.getD u 0)≠bGx all (s.getD v 0))/\x = -1) \/
 (gate<=v/\∃u:Nat,u<v/\bGx all (s.getD u 0)=bGx all (s.getD v 0)/\(∀u',u'<u->bGx all (s.getD u' 0)≠bGx all (s.getD v 0)) /\
  ((gate<=7/\x=litG s (u:Int) (s.getD v 0))\/(¬gate<=7/\∃b,bQm nv (v:Int) (litG s (u:Int) (s.getD v 0))=some (b,0)/\x=if b=true then litG s (u:Int) (s.getD v 0) else -1)))
structure GInv(all:Int)(gate:Nat)(nv:Int->Int->Option (Bool×Int))(s:List Int)(n:Nat)(st:List Int×List (Int×Int)):Prop where
 len:st.1.length=n
 no:∀z,bPr st.2 z=none->∀u,u<n->bGx all (s.getD u 0)≠z
 yes:∀z c,bPr st.2 z=some c->∃u:Nat,c=(u:Int)/\u<n/\bGx all (s.getD u 0)=z/\∀u',u'<u->bGx all (s.getD u' 0)≠z
 giv:∀v,v<n->Gv all gate nv s v (st.1.getD v 0)
theorem GInv.snoc{n:Nat}{st:List Int×List (Int×Int)}(h:GInv all gate nv s n st){x:Int}(hx:Gv all gate nv s n x):∀v,v<n+1->Gv all gate nv s v ((st.1++[x]).getD v 0):=fun v hv=>by
 rw[bJ5,h.len]
 by_cases e:v<n
 .rw[if_pos e];exact h.giv v e
 .rw[if_neg e,if_pos (by omega)]
  obtain rfl:v=n:=by omega
  exact hx
theorem bXx:∀n st,runG all gate nv s n=some (.inr st)->GInv all gate nv s n st
 |0,st,h=>by
  cases h
  exact⟨rfl,fun z _ u hu=>by omega,fun z c h=>(by cases h),fun v hv=>by omega⟩
 |n+1,st,h=>by
  simp only[runG]at h
  split at h
  .rename_i st0 h0
   have ih:=bXx n st0 h0
   unfold stepG at h
   rw[ih.len]at h
   have known:∀(x:Int) (c:Int),bPr st0.2 (bGx all (s.getD n 0))=some c->Gv all gate nv s n x->GInv all gate nv s (n+1) (st0.1++[x],st0.2):=fun x c hc hx=>by
    obtain⟨u0,rfl,u1,u2,u3⟩:=ih.yes _ _ hc
    refine⟨by simp[ih.len],fun z hz u hu=>?_,fun z c hz=>?_,ih.snoc hx⟩
    .by_cases e:u<n
     .exact ih.no z hz u e
     .obtain rfl:u=n:=by omega
      intro hE
      rw[<-hE,hc]at hz
      cases hz
    .obtain⟨u,k1,k2,k3,k4⟩:=ih.yes z c hz
     exact⟨u,k1,by omega,k3,k4⟩
   split at h
   .rename_i hl
    cases h
    have hx:Gv all gate nv s n (-1):=by
     by_cases hg:n<gate
     .exact .inl ⟨hg,rfl⟩
     .exact .inr (.inl ⟨by omega,fun u hu=>ih.no _ hl u hu,rfl⟩)
    refine⟨by simp[ih.len],fun z hz u hu=>?_,fun z c hz=>?_,ih.snoc hx⟩
    .simp only[bPr]at hz
     split at hz
     .cases hz
     .rename_i hne
      by_cases e:u<n
      .exact ih.no z hz u e
      .obtain rfl:u=n:=by omega
       exact fun hE=>hne hE.symm
    .simp only[bPr]at hz
     split at hz
     .rename_i hE
      cases hz
      exact⟨n,rfl,by omega,hE.symm,fun u' hu'=>by rw[hE];exact ih.no _ hl u' hu'⟩
     .obtain⟨u,k1,k2,k3,k4⟩:=ih.yes z c hz
      exact⟨u,k1,by omega,k3,k4⟩
   .rename_i c hl
    obtain⟨u0,rfl,u1,u2,u3⟩:=ih.yes _ _ hl
    split at h
    .rename_i hg
     cases h
     exact known _ _ hl (.inl ⟨hg,rfl⟩)
    .rename_i hg
     by_cases h7:gate<=7
     .rw[if_pos h7]at h
      simp only[if_true,Option.some.injEq,Sum.inr.injEq]at h
      subst h
      exact known _ _ hl (.inr (.inr ⟨by omega,u0,u1,u2,u3,.inl ⟨h7,rfl⟩⟩))
     .rw[if_neg h7]at h
      split at h
      .cases h
      .rename_i b e hs
       split at h
       .rename_i he
        subst he
        cases h
        exact known _ _ hl (.inr (.inr ⟨by omega,u0,u1,u2,u3,.inr ⟨h7,b,hs,rfl⟩⟩))
       .cases h
  .cases h
  .cases h
theorem Gv.bound{v:Nat}{x:Int}(h:Gv all gate nv s v x): -1<=x/\x<2*(v:Int)/\(0<=x->gate<=v):=by
 rcases h with⟨h,rfl⟩|⟨h,_,rfl⟩|⟨h,u,h1,_,_,h2⟩
 .omega
 .omega
 .have:=bQu (s:=s) (k:=u) (x:=s.getD v 0)
  rcases h2 with⟨_,rfl⟩|⟨_,b,_,rfl⟩
  .omega
  .split<;>omega
end
end
section
variable {I:Int} {Ls As:List (Int×Int)} {Bs Cs:List Int}
theorem cDm{m:Nat}(hm:I+(Ls.length:Int)=m)(hl:m<=1000):bKj I Ls As Bs Cs=some (bDc m):=by
 have w:IntKind.wrap .i64 (I+(Ls.length:Int))=m:=by rw[hm,wr]<;>omega
 have main:(bif (decide ((m:Int)>=6)) then(some (18446744073709551615:Int)) else(bif decide ((m:Int)<0) then(none) else(bif decide ((bshl .u64 (1:Int) (m:Int))<0) then(none) else(some (IntKind.wrap .u64 ((bshl .u64 (1:Int) (bshl .u64 (1:Int) (m:Int)))-(1:Int)))))))=some (bDc m):=by
  unfold bDc
  rw[cd]
  by_cases h:(m:Int)>=6
  .rw[if_pos h,if_pos (by omega)]
  .rw[if_neg h,if_neg (by omega),cd,if_neg (by omega),cd,if_neg]
   have:=(wrU_in (1*2^(min (m:Int).toNat IntKind.u64.bits))).1
   unfold bshl
   omega
 rw[bKj.eq,w]
 exact main
theorem sweep.loop0{m n:Nat}(hm:m<=n)(hn:n<=1000):∀(j k:Nat),k+j=m ->
  bAq.l0 ((m+1:Nat):Int) (linS k) ((k+1:Nat):Int) I Ls As Bs Cs (bDc m) pats (inL m k++List.replicate (n-k) 0)=bAq.l1 ((m+1:Nat):Int) As (As.length:Int) 0 (bDc m) (inL m m++List.replicate (n-m) 0)
 |0,k,hk=>by
  have:k=m:=by omega
  subst this
  rw[bAq.l0_eq,cd,if_neg (by omega)]
 |j+1,k,hk=>by
  have hlt:k<m:=by omega
  have w1:IntKind.wrap .i64 (((m+1:Nat):Int)-1)=m:=by rw[wr]<;>omega
  have w2:IntKind.wrap .i64 (((k+1:Nat):Int)-1)=k:=by rw[wr]<;>omega
  have w3:IntKind.wrap .i64 (((k+1:Nat):Int)+1)=((k+1+1:Nat):Int):=by rw[wr]<;>omega
  have hidx:k+1<(inL m k++List.replicate (n-k) 0).length:=by rw[List.length_append,bKd,List.length_replicate];omega
  have hset:∀x,(inL m k++List.replicate (n-k) 0).set (k+1) x=(inL m k++[x])++List.replicate (n-(k+1)) 0:=fun x=>by
   have:=cDk (P:=inL m k) (k:=n-(k+1)) (x:=x)
   rwa [bKd,show n-(k+1)+1=n-k from by omega]at this
  have hl:linS (k+1)=lin (linS k):=rfl
  have ih:=sweep.loop0 hm hn j (k+1) (by omega)
  rw[bAq.l0_eq,cd,if_pos (by omega),w1,w2,w3,cd]
  by_cases h6:(m:Int)<=6
  .have hp:k<pats.length:=by show k<6;omega
   have hi:inL m (k+1)=inL m k++[band .u64 pats[k] (bDc m)]:=by
    show inL m k++[inp m k]=_
    unfold inp
    rw[if_pos (by omega),List.getD_eq_getElem?_getD,List.getElem?_eq_getElem hp];rfl
   rw[if_pos h6,bCq hp,Option.bind_some,Int.toNat_natCast,List.getElem?_eq_getElem hp,Option.bind_some,bCq hidx,Option.bind_some,Int.toNat_natCast,List.getElem?_eq_getElem hidx,Option.bind_some,hset,<-hi]
   exact ih
  .have hi:inL m (k+1)=inL m k++[lin (linS k)]:=by
    show inL m k++[inp m k]=_
    unfold inp
    rw[if_neg (by omega)];rfl
   rw[if_neg h6,bCq hidx,Option.bind_some,Int.toNat_natCast,List.getElem?_eq_getElem hidx,Option.bind_some,hset]
   rw[hi]at ih
   exact ih
theorem cDf{a:Int}{P Z:List Int}{l:Int}(hl:0<=l/\in64 l)(hi:(l/2).toNat<P.length)(hP:∀x∈P,inM a x):bB3 l (P++Z) a=some (bGa a P l):=by
 have hx:=hP _ (List.getElem_mem hi)
 have h1:geti (P++Z) (l/2)=some P[(l/2).toNat]:=by
  rw[gi' (by omega),List.getElem?_append_left hi,List.getElem?_eq_getElem hi]
 unfold bGa
 rw[bB3.eq,td2 hl.1 hl.2,tm hl.1,ce,h1,List.getD_eq_getElem?_getD,List.getElem?_eq_getElem hi,Option.getD_some]
 by_cases c:l%2=1
 .rw[if_pos c,if_pos c,Option.bind_some,(hx.not).1]
 .rw[if_neg c,if_neg c];rfl
theorem sgates.loop{a:Int}{g:Nat}(h:As.length<=140737488351232/\∀x∈As,in64 x.1/\in64 x.2)(hg:g+As.length<=2000):∀(k i:Nat) (P:List Int),i+k=As.length->P.length=g+i->(∀x∈P,inM a x)->okG ((g+i:Nat):Int) (As.drop i)=true ->
  bAq.l1 (g:Int) As (As.length:Int) (i:Int) a (P++List.replicate k 0)=some (sigs a P (As.drop i),0)
 |0,i,P,hi,hp,hP,ho=>by
  rw[bAq.l1_eq,cd,if_neg (by omega),List.replicate_zero,List.append_nil,List.drop_of_length_le (by omega)]
  rfl
 |k+1,i,P,hi,hp,hP,ho=>by
  have hlt:i<As.length:=by omega
  obtain⟨h1,h2⟩:=h.2 _ (List.getElem_mem hlt)
  rw[drop_cons hlt]at ho
  unfold okG at ho
  simp only[Bool.and_eq_true,decide_eq_true_eq]at ho
  obtain⟨⟨⟨o1,o2⟩,o3⟩,o4⟩:=ho
  have hw:IntKind.wrap .i64 ((i:Int)+1)=((i+1:Nat):Int):=by rw[wr]<;>omega
  have hw2:IntKind.wrap .i64 ((g:Int)+(i:Int))=((g+i:Nat):Int):=by rw[wr]<;>omega
  have x2:=cDf (Z:=List.replicate (k+1) 0) (P:=P) (a:=a) (l:=(As[i]).1) ⟨by omega,h1⟩ (by omega) hP
  have y2:=cDf (Z:=List.replicate (k+1) 0) (P:=P) (a:=a) (l:=(As[i]).2) ⟨o1,h2⟩ (by omega) hP
  have x1:=inM.lit hP (l:=(As[i]).1) (by omega)
  have y1:=inM.lit hP (l:=(As[i]).2) (by omega)
  have hidx:g+i<(P++List.replicate (k+1) 0).length:=by rw[List.length_append,List.length_replicate];omega
  have hset:=cDk (P:=P) (k:=k) (x:=band .u64 (bGa a P (As[i]).1) (bGa a P (As[i]).2))
  rw[hp]at hset
  have ih:=sgates.loop (a:=a) h hg k (i+1) (P++[band .u64 (bGa a P (As[i]).1) (bGa a P (As[i]).2)]) (by omega) (by rw[List.length_append,List.length_singleton];omega) (fun z hz=>by
   rcases List.mem_append.1 hz with hz|hz
   .exact hP z hz
   .rw[List.mem_singleton]at hz;subst hz;exact x1.band y1) (by rw[show((g+(i+1):Nat):Int)=((g+i:Nat):Int)+1 from by omega];exact o4)
  rw[bAq.l1_eq,cd,if_pos (by omega),bCq hlt,Option.bind_some,x2,Option.bind_some,y2,Option.bind_some,hw2,bCq hidx,Option.bind_some,Int.toNat_natCast,List.getElem?_eq_getElem hidx,Option.bind_some,hw,hset,drop_cons hlt]
  exact ih
def sigC(I:Int)(Ls As:LP):List Int:=sigs (bDc (I+(Ls.length:Int)).toNat) (inL (I+(Ls.length:Int)).toNat (I+(Ls.length:Int)).toNat) As
theorem bPg(h:bGi I Ls As Bs Cs)(hc:bCc I Ls As Bs Cs=0):bAq I Ls As Bs Cs=some (sigC I Ls As,0):=by
 obtain⟨k1,⟨k2,k3,_,_⟩,_,_,_,ho⟩:=bBh hc
 obtain⟨m,hm⟩:∃m:Nat,I+(Ls.length:Int)=m:=⟨(I+(Ls.length:Int)).toNat,by omega⟩
 have hm1:m<=1000:=by omega
 have b1:=cDm (As:=As) (Bs:=Bs) (Cs:=Cs) hm hm1
 have hsz:size I Ls As=((m+As.length:Nat):Int):=by unfold size;omega
 have w1:IntKind.wrap .i64 (size I Ls As+1)=((m+As.length+1:Nat):Int):=by rw[hsz,wr]<;>omega
 have w2:IntKind.wrap .i64 (I+(Ls.length:Int))=m:=by rw[hm,wr]<;>omega
 have w3:IntKind.wrap .i64 ((m:Int)+1)=((m+1:Nat):Int):=by rw[wr]<;>omega
 have r1:=sgates.loop (a:=bDc m) (g:=m+1) h.as_ (by omega) As.length 0 (inL m m) (by omega) (bKd m m) (cD5 m (Nat.le_refl _)) (by rw[List.drop_zero,show((m+1+0:Nat):Int)=1+I+(Ls.length:Int) from by omega];exact ho)
 have s1:=sweep.loop0 (I:=I) (Ls:=Ls) (As:=As) (Bs:=Bs) (Cs:=Cs) (m:=m) (n:=m+As.length) (by omega) (by omega) m 0 (by omega)
 rw[show m+As.length-m=As.length from by omega,show m+As.length-0=m+As.length from rfl]at s1
 rw[bAq.eq,bHu h,if_pos hc,Option.bind_some]
 dsimp only
 rw[cn,if_pos rfl,b1,Option.bind_some,w1,bPp (by omega) (by omega),Option.bind_some,if_pos rfl,w2,w3,Int.toNat_natCast]
 rw[List.drop_zero]at r1
 unfold sigC
 rw[show(I+(Ls.length:Int)).toNat=m by omega]
 exact s1.trans r1
theorem bRb(hc:bCc I Ls As Bs Cs=0):∃m:Nat,I+(Ls.length:Int)=m/\m<=1000/\bC3 I Ls=m+1/\sigC I Ls As=sigs (bDc m) (inL m m) As/\okG ((m+1:Nat):Int) As=true /\
  inL m m<+:sigC I Ls As/\(sigC I Ls As).length=m+1+As.length/\m+As.length<=1000/\∀x∈sigC I Ls As,inM (bDc m) x:=by
 obtain⟨k1,⟨k2,k3,_,_⟩,_,_,_,ho⟩:=bBh hc
 obtain⟨m,hm⟩:∃m:Nat,I+(Ls.length:Int)=m:=⟨(I+(Ls.length:Int)).toNat,by omega⟩
 have ho':okG ((m+1:Nat):Int) As=true:=by rw[show((m+1:Nat):Int)=1+I+(Ls.length:Int) from by omega];exact ho
 have e:sigC I Ls As=sigs (bDc m) (inL m m) As:=by unfold sigC;rw[show(I+(Ls.length:Int)).toNat=m by omega]
 obtain⟨q1,q2,q3,_⟩:=bPf As (m+1) (inL m m) (bKd m m) (cD5 m (Nat.le_refl _)) ho'
 refine⟨m,hm,by omega,by unfold bC3;omega,e,ho',by rw[e];exact q1,by rw[e];exact q2,by omega,by rw[e];exact q3⟩
theorem mul1{n:Nat}(hn:n<=3001):bSj 1 (n:Int)=some (0,(n:Int)):=by
 have b1:band .u64 1 4294967295=1:=by decide
 have b2:band .u64 (n:Int) 4294967295=n:=by
  rw[bT9]
  have h2:(U 4294967295)=BitVec.ofNat 64 (2^32-1):=by decide
  have h1:((U (n:Int))&&&U 4294967295).toNat=n:=by
   rw[BitVec.toNat_and]
   have e1:(U (n:Int)).toNat=n:=by have:=cF1 (x:=(n:Int)) (by constructor<;>omega);omega
   have e2:(U 4294967295).toNat=2^32-1:=by decide
   rw[e1,e2,Nat.and_two_pow_sub_one_eq_mod]
   omega
  rw[h1]
 have s0:bshr .u64 1 32=0:=by decide
 have s1:bshr .u64 (n:Int) 32=0:=by
  unfold bshr
  rw[show min (Int.toNat 32) IntKind.u64.bits=32 from rfl,Int.fdiv_eq_ediv_of_nonneg _ (by decide)]
  omega
 have w:IntKind.wrap .u64 (n:Int)=n:=wrU (by constructor<;>omega)
 have z:bshr .u64 0 32=0:=by decide
 have z2:band .u64 0 4294967295=0:=by decide
 have z3:IntKind.wrap .u64 0=0:=by decide
 rw[bSj.eq,bM1.eq,Option.bind_some]
 simp only[b1,b2,s0,s1,Int.one_mul,w,Int.zero_mul,Int.mul_zero,z3,Int.zero_add,Int.add_zero,z,z2]
theorem bX8{g:Int}:∀(l:LP) (k:Nat),okG (g+(k:Int)) l=true->gatB g k l=true
 |[],k,_=>rfl
 |x::r,k,h=>by
  unfold okG at h
  simp only[Bool.and_eq_true,decide_eq_true_eq]at h
  obtain⟨⟨⟨h1,h2⟩,h3⟩,h4⟩:=h
  unfold gatB
  simp only[Bool.and_eq_true,decide_eq_true_eq]
  exact⟨⟨⟨h1,h2⟩,h3⟩,bX8 r (k+1) (by push_cast;rw[show g+((k:Int)+1)=g+(k:Int)+1 by omega];exact h4)⟩
theorem okG_of{g:Int}:∀(l:LP) (k:Nat),(∀(j:Nat) (p:Int×Int),l[j]?=some p->0<=p.2/\p.2<=p.1/\p.1/2<g+((k+j:Nat):Int))->okG (g+(k:Int)) l=true
 |[],k,_=>rfl
 |x::r,k,h=>by
  unfold okG
  simp only[Bool.and_eq_true,decide_eq_true_eq]
  obtain⟨h1,h2,h3⟩:=h 0 x rfl
  refine⟨⟨⟨h1,h2⟩,by simpa using h3⟩,?_⟩
  have:=okG_of (g:=g) r (k+1) (fun j p hp=>by have:=h (j+1) p (by simpa using hp);rw[show k+1+j=k+(j+1) by omega];exact this)
  push_cast at this
  rw[show g+(k:Int)+1=g+((k:Int)+1) by omega]
  exact this
theorem okG_at{g:Int}:∀(l:LP),okG g l=true->∀(k:Nat) (p:Int×Int),l[k]?=some p->0<=p.2/\p.2<=p.1/\p.1/2<g+(k:Int):=fun l h k p hp=>by
 have:=bYq (bX8 (g:=g) l 0 (by simpa using h)) k p hp
 simpa using this
theorem bYc{n:Int}{l:List Int}(h:∀x∈l,litN n x):bYd (n+1) l=true:=by
 unfold bYd
 rw[List.all_eq_true]
 intro x hx
 obtain⟨h1,h2⟩:=h x hx
 simp only[Bool.and_eq_true,decide_eq_true_eq]
 omega
theorem cKu{i:Int}:∀(l:List Int) (v:Nat),(∀(j:Nat) (x:Int),l[j]?=some x -> -1<=x/\x<2*((v+j:Nat):Int)/\(0<=x->i<((v+j:Nat):Int)))->givB i v l=true
 |[],v,_=>rfl
 |x::r,v,h=>by
  unfold givB
  simp only[Bool.and_eq_true,Bool.or_eq_true,decide_eq_true_eq]
  obtain⟨h1,h2,h3⟩:=h 0 x rfl
  refine⟨⟨⟨h1,by simpa using h2⟩,?_⟩,cKu r (v+1) (fun j y hy=>by have:=h (j+1) y (by simpa using hy);rw[show v+1+j=v+(j+1) by omega];exact this)⟩
  by_cases h0:x<0
  .exact .inl h0
  .exact .inr (by simpa using h3 (by omega))
def cBn(I:Int)(Ls As:LP)(g:List Int):Prop:=(g.length:Int)=size I Ls As+1/\∀(v:Nat) (x:Int),g[v]?=some x -> -1<=x/\x<2*(v:Int)/\(0<=x->I<(v:Int))
theorem bRp(h:bGi I Ls As Bs Cs)(hc:bCc I Ls As Bs Cs=0){g:List Int}(hg:cBn I Ls As g):bT5 I Ls As Bs Cs g=true/\BOk g.length (bC3 I Ls) As g:=by
 obtain⟨k1,⟨k2,k3,k4,k5⟩,c1,c2,c3,ho⟩:=bBh hc
 obtain⟨hl,hg⟩:=hg
 have hgate:((bC3 I Ls:Nat):Int)=1+I+Ls.length:=by unfold bC3;omega
 unfold size at hl
 have hlen:g.length=bC3 I Ls+As.length:=by omega
 have ho':okG ((bC3 I Ls:Nat):Int) As=true:=by rw[hgate];exact ho
 have hN:(g.length:Int)=size I Ls As+1:=by unfold size;omega
 refine⟨?_,hlen,fun v hv=>?_,fun k p hp=>okG_at As ho' k p hp,by omega,by omega,rfl,by omega⟩
 .unfold bT5
  simp only[Bool.and_eq_true,decide_eq_true_eq]
  refine⟨⟨⟨⟨⟨⟨⟨by omega,by omega⟩,by omega⟩,by omega⟩,by omega⟩,by omega⟩,hlen⟩,⟨⟨⟨⟨bX8 As 0 (by simpa using ho'),cKu g 0 (fun j x hx=>by have:=hg j x hx;rw[Nat.zero_add];exact this)⟩,?_⟩,?_⟩,?_⟩⟩
  .rw[hN]
   refine bYc fun x hx=>?_
   obtain⟨y,hy,rfl⟩:=List.mem_map.1 hx
   exact(c3 y hy).1
  .rw[hN];exact bYc c1
  .rw[hN];exact bYc c2
 .have:=hg v (g.getD v 0) (by rw[List.getElem?_eq_getElem hv];simp[List.getD,List.getElem?_eq_getElem hv])
  exact⟨this.2.1,this.1⟩
theorem bYk(h:bGi I Ls As Bs Cs)(hc:bCc I Ls As Bs Cs=0){g:List Int}(hg:cBn I Ls As g):bMy I Ls As Bs Cs g=some (cFu I Ls As Bs Cs g):=by
 have hv:=bHu h
 rw[if_pos hc]at hv
 unfold size at hv
 have hask:bCm E (DM E) 44 [bCk I Ls As Bs Cs] [.d (.int .i64),.d (.int .i64)]=some (I+(Ls.length:Int)+(As.length:Int),(0:Int)):=(cF3 (by kernel_rfl)).trans hv
 unfold bMy
 rw[D_hk (k:=cC5) (by kernel_rfl)]
 show bJ7 (bCm E (DM E)) [bCk I Ls As Bs Cs,.d (.list (.int .i64)) g]=_
 show(match bCm E (DM E) 44 [bCk I Ls As Bs Cs] [.d (.int .i64),.d (.int .i64)]with
  |some r=>if(show Int×Int from r)=((I+(Ls.length:Int)+(As.length:Int)),(0:Int))/\bT5 I Ls As Bs Cs g=true then some (cFu I Ls As Bs Cs g) else none
  |none=>none)=_
 rw[hask]
 exact if_pos ⟨rfl,(bRp h hc hg).1⟩
theorem bLp(h:bGi I Ls As Bs Cs)(hc:bCc I Ls As Bs Cs=0):bG1 I Ls As Bs Cs=some (bJ4 I Ls):=by
 obtain⟨k1,⟨k2,k3,k4,k5⟩,_⟩:=bBh hc
 have hv:=bG2 h
 rw[hc]at hv
 have hask:bCm E (DM E) 37 [bCk I Ls As Bs Cs] [.d (.int .i64)]=some (0:Int):=(cF3 (by kernel_rfl)).trans hv
 unfold bG1
 rw[D_hk (k:=cCo) (by kernel_rfl)]
 show(match bCm E (DM E) 37 [bCk I Ls As Bs Cs] [.d (.int .i64)]with
  |some r=>if(show Int from r)=0/\(0<=I/\I<=1000/\Ls.length<=1000) then some (bJ4 I Ls) else none
  |none=>none)=_
 rw[hask]
 exact if_pos ⟨rfl,k1,k2,by omega⟩
noncomputable def nvC(I:Int)(Ls As:LP)(Bs Cs:List Int)(b:Int):Int->Int->Option (Bool×Int):=nvOf (bCm E (DM E)) I Ls As Bs Cs b
theorem bM7(h:bGi I Ls As Bs Cs)(hc:bCc I Ls As Bs Cs=0){b:Int}(hb:0<=b/\b<=100000){m:Nat}(hm:I+(Ls.length:Int)=m):
  bC4 I Ls As Bs Cs b=endG (runG (bDc m) (bC3 I Ls) (nvC I Ls As Bs Cs b) (sigC I Ls As) (sigC I Ls As).length):=by
 obtain⟨k1,⟨k2,k3,k4,k5⟩,_⟩:=bBh hc
 obtain⟨m',hm',s1,s2,s3,s4,s5,s6,s7,s8⟩:=bRb hc
 obtain rfl:m'=m:=by omega
 have a18:bCm E (DM E) 18 [bCk I Ls As Bs Cs] [.own (.int .u64),.d (.int .i64)]=some (sigC I Ls As,(0:Int)):=(cF3 (by kernel_rfl)).trans (bPg h hc)
 have a32:bCm E (DM E) 32 [bCk I Ls As Bs Cs] [.d (.int .u64)]=some (bDc m'):=(cF3 (by kernel_rfl)).trans (cDm hm s1)
 have a55:bCm E (DM E) 55 [.d (.int .u64) (1:Int),.d (.int .u64) (((sigC I Ls As).length:Nat):Int)] [.d (.int .u64),.d (.int .u64)]=some ((0:Int),((sigC I Ls As).length:Int)):=(cF3 (by kernel_rfl)).trans (mul1 (by omega))
 have hB:bQb I Ls As b (sigC I Ls As)=true:=by
  unfold bQb
  simp only[Bool.and_eq_true,decide_eq_true_eq,List.all_eq_true]
  exact⟨⟨⟨⟨⟨⟨⟨k1,k2⟩,by omega⟩,hb.1⟩,hb.2⟩,by omega⟩,by omega⟩,fun x hx=>by have:=(s8 x hx).1;unfold w64 at this;omega⟩
 unfold bC4
 rw[D_hk (k:=cAr) (by kernel_rfl)]
 show(match bCm E (DM E) 18 [bCk I Ls As Bs Cs] [.own (.int .u64),.d (.int .i64)]with
  |some r1=>if(show List Int×Int from r1).2≠0 then some ([],(show List Int×Int from r1).2) else if b<0\/100000<b then some ([],2) else match bCm E (DM E) 32 [bCk I Ls As Bs Cs] [.d (.int .u64)]with
   |some r2=>match bCm E (DM E) 55 [.d (.int .u64) (1:Int),.d (.int .u64) (((show List Int×Int from r1).1.length:Nat):Int)] [.d (.int .u64),.d (.int .u64)]with
    |some r3=>if(show List Int×Int from r1).2=0/\(show Int×Int from r3)=((0:Int),((show List Int×Int from r1).1.length:Int))/\bQb I Ls As b (show List Int×Int from r1).1=true then
      endG (runG r2 (bC3 I Ls) (nvC I Ls As Bs Cs b) (show List Int×Int from r1).1 (show List Int×Int from r1).1.length) else none
    |none=>none
   |none=>none
  |none=>none)=_
 rw[a18]
 show(if(0:Int)≠0 then some ([],(0:Int)) else if b<0\/100000<b then some ([],2) else match bCm E (DM E) 32 [bCk I Ls As Bs Cs] [.d (.int .u64)]with
   |some r2=>match bCm E (DM E) 55 [.d (.int .u64) (1:Int),.d (.int .u64) (((sigC I Ls As).length:Nat):Int)] [.d (.int .u64),.d (.int .u64)]with
    |some r3=>if(0:Int)=0/\(show Int×Int from r3)=((0:Int),((sigC I Ls As).length:Int))/\bQb I Ls As b (sigC I Ls As)=true then
      endG (runG r2 (bC3 I Ls) (nvC I Ls As Bs Cs b) (sigC I Ls As) (sigC I Ls As).length) else none
    |none=>none
   |none=>none)=_
 rw[if_neg (by simp),if_neg (by omega),a32,a55]
 exact if_pos ⟨rfl,rfl,hB⟩
end
section
theorem mask_ok(m:Nat):odd0 (bDc m)=true/\w64 (bDc m):=by
 by_cases h:6<=m
 .unfold bDc
  rw[if_pos h]
  exact⟨by decide,by decide⟩
 .have:m=0\/m=1\/m=2\/m=3\/m=4\/m=5:=by omega
  rcases this with h|h|h|h|h|h<;>subst h<;>exact⟨by decide,by decide⟩
section
variable {I:Int} {Ls As:List (Int×Int)} {Bs Cs:List Int}
abbrev bT(I:Int)(Ls As:LP)(g:List Int):List Int:=(bNg I Ls As g).1
abbrev bLs(I:Int)(Ls As:LP)(g:List Int):LP:=Ls.map fun x=>(atT (bT I Ls As g) x.1,x.2)
abbrev bAs(I:Int)(Ls As:LP)(g:List Int):LP:=(bNg I Ls As g).2
abbrev bL(I:Int)(Ls As:LP)(g:List Int)(l:List Int):List Int:=l.map (atT (bT I Ls As g))
theorem atT_lit{t:List Int}{x:Int}{n:Nat}(h:0<=t.getD (x/2).toNat 0/\t.getD (x/2).toNat 0/2<(n:Int)):0<=atT t x/\atT t x/2<(n:Int):=by
 unfold atT bS7
 split
 .exact h
 .unfold negI
  split<;>omega
theorem cLg(h:bGi I Ls As Bs Cs)(hc:bCc I Ls As Bs Cs=0){g:List Int}(hg:cBn I Ls As g){x:Int}(hx:litN (size I Ls As) x):litN (size I (bLs I Ls As g) (bAs I Ls As g)) (atT (bT I Ls As g) x):=by
 obtain⟨k1,_⟩:=bBh hc
 obtain⟨_,hK⟩:=bRp h hc hg
 have hl:=hg.1
 have:=atT_lit (x:=x) ((cBd hK g.length (Nat.le_refl _)).1 (x/2).toNat (by unfold litN at hx;omega))
 have hgate:((bC3 I Ls:Nat):Int)=1+I+Ls.length:=by unfold bC3;omega
 refine⟨this.1,?_⟩
 have h2:atT (bT I Ls As g) x/2<((bC3 I Ls+(bAs I Ls As g).length:Nat):Int):=this.2
 unfold size
 rw[List.length_map]
 omega
theorem cHx(h:bGi I Ls As Bs Cs)(hc:bCc I Ls As Bs Cs=0){g:List Int}(hg:cBn I Ls As g):
  bGi I (bLs I Ls As g) (bAs I Ls As g) (bL I Ls As g Bs) (bL I Ls As g Cs)/\bCc I (bLs I Ls As g) (bAs I Ls As g) (bL I Ls As g Bs) (bL I Ls As g Cs)=0/\(bAs I Ls As g).length<=As.length:=by
 obtain⟨k1,⟨k2,k3,k4,k5⟩,c1,c2,c3,ho⟩:=bBh hc
 obtain⟨_,hK⟩:=bRp h hc hg
 have hfew:(bAs I Ls As g).length<=As.length:=cLh hK
 have hgate:((bC3 I Ls:Nat):Int)=1+I+Ls.length:=by unfold bC3;omega
 have hsz:size I (bLs I Ls As g) (bAs I Ls As g)<=1000:=by unfold size;rw[List.length_map];omega
 have hlit:∀x,litN (size I Ls As) x->litN (size I (bLs I Ls As g) (bAs I Ls As g)) (atT (bT I Ls As g) x):=fun x hx=>cLg h hc hg hx
 have hgates:=(cBd hK g.length (Nat.le_refl _)).2
 have in_of:∀x,litN (size I (bLs I Ls As g) (bAs I Ls As g)) x->in64 x:=fun x hx=>by unfold litN at hx;unfold in64;omega
 have d1:∀x∈bL I Ls As g Bs,litN (size I (bLs I Ls As g) (bAs I Ls As g)) x:=fun x hx=>by obtain⟨y,hy,rfl⟩:=List.mem_map.1 hx;exact hlit y (c1 y hy)
 have d2:∀x∈bL I Ls As g Cs,litN (size I (bLs I Ls As g) (bAs I Ls As g)) x:=fun x hx=>by obtain⟨y,hy,rfl⟩:=List.mem_map.1 hx;exact hlit y (c2 y hy)
 have d3:∀x∈bLs I Ls As g,latN (size I (bLs I Ls As g) (bAs I Ls As g)) x:=fun x hx=>by obtain⟨y,hy,rfl⟩:=List.mem_map.1 hx;exact⟨hlit y.1 (c3 y hy).1,(c3 y hy).2⟩
 have d4:okG (1+I+((bLs I Ls As g).length:Int)) (bAs I Ls As g)=true:=by
  rw[List.length_map,<-hgate]
  have:=okG_of (g:=((bC3 I Ls:Nat):Int)) (bAs I Ls As g) 0 (fun j p hp=>by have:=hgates j p hp;rw[Nat.zero_add];push_cast at this;exact⟨this.1,by omega,this.2.2⟩)
  simpa using this
 refine⟨⟨h.i,⟨by rw[List.length_map];omega,fun x hx=>⟨in_of _ (d3 x hx).1,by have:=(d3 x hx).2;unfold in64;omega⟩⟩,⟨by omega,fun x hx=>?_⟩,⟨by rw[List.length_map];omega,fun x hx=>in_of _ (d1 x hx)⟩,⟨by rw[List.length_map];omega,fun x hx=>in_of _ (d2 x hx)⟩⟩,?_,hfew⟩
 .obtain⟨k,hk⟩:=List.getElem?_of_mem hx
  have:=hgates k x hk
  have hk2:k<(bAs I Ls As g).length:=(List.getElem?_eq_some_iff.1 hk).1
  unfold in64
  omega
 .unfold bCc
  rw[if_neg (by omega),if_pos ⟨k2,by rw[List.length_map];omega,by rw[List.length_map];exact k4,by rw[List.length_map];exact k5⟩,if_pos ⟨d1,d2,d3,d4⟩]
theorem bR3(h:bGi I Ls As Bs Cs)(hc:bCc I Ls As Bs Cs=0){b:Int}(hb:0<=b/\b<=100000){g:List Int}(hg:cBn I Ls As g)(hG:bC4 I Ls As Bs Cs b=some (g,0)):
  bFz I Ls As Bs Cs b=some (((I,bLs I Ls As g,bAs I Ls As g,bL I Ls As g Bs,bL I Ls As g Cs),(bJ4 I (bLs I Ls As g)).1),0):=by
 obtain⟨h',hc',hf⟩:=cHx h hc hg
 have n1:=h'.ls.1;have n2:=h'.as_.1;have n3:=h'.bs.1;have n4:=h'.cs.1
 have e:bMy I Ls As Bs Cs g=some ((I,bLs I Ls As g,bAs I Ls As g,bL I Ls As g Bs,bL I Ls As g Cs),bT I Ls As g,0):=bYk h hc hg
 obtain⟨_,⟨_,f1,f2,f3⟩,_⟩:=bBh hc'
 obtain⟨q1,_⟩:=bBh hc
 rw[bFz.eq,bG2 h,Option.bind_some,hc,cn,if_pos rfl,cd,if_neg (by omega),cd,if_neg (by omega),hG,Option.bind_some]
 dsimp only
 rw[ce,if_pos rfl,e,Option.bind_some]
 dsimp only
 rw[bLp h' hc',Option.bind_some,bCi (by simp only[List.length_nil];omega),Option.bind_some,bCi (by simp only[List.length_nil];omega),Option.bind_some,bCi (by simp only[List.length_nil];omega),Option.bind_some,bCi (by simp only[List.length_nil];omega),Option.bind_some]
 rfl
theorem sig_low{m:Nat}{X:LP}{v:Nat}(hv:v<m+1)(hp:inL m m<+:sigs (bDc m) (inL m m) X):(sigs (bDc m) (inL m m) X).getD v 0=(inL m m).getD v 0:=bQ7 hp (by rw[bKd];exact hv)
end
end
section
def idxB(x:Nat->Bool):Nat->Nat
 |0=>0
 |m+1=>if x m=true then 2^m+idxB x m else idxB x m
theorem cAo{x:Nat->Bool}:∀m,idxB x m<2^m
 |0=>Nat.one_pos
 |m+1=>by
  have:=cAo (x:=x) m
  rw[idxB,Nat.pow_succ]
  split<;>omega
theorem cD6{x:Nat->Bool}:∀m k,k<m->(idxB x m).testBit k=x k
 |0,k,h=>by omega
 |m+1,k,h=>by
  have hl:=cAo (x:=x) m
  rw[idxB]
  by_cases e:k=m
  .subst e
   split
   .rename_i hx
    rw[Nat.testBit_two_pow_add_eq,Nat.testBit_lt_two_pow hl,hx];rfl
   .rename_i hx
    rw[Nat.testBit_lt_two_pow hl]
    cases hxx:x k with
    |true=>exact absurd hxx hx
    |false=>rfl
  .have ih:=cD6 (x:=x) m k (by omega)
   split
   .rw[Nat.testBit_two_pow_add_gt (by omega)];exact ih
   .exact ih
def cJ3:Bool:=(List.range 7).all fun m=>(List.range (2^m)).all fun i=>(U (bDc m)).getLsbD i&&(List.range m).all fun k=>(U (inp m k)).getLsbD i==i.testBit k
theorem bS4:cJ3=true:=by decide +kernel
theorem inp_bit{m i k:Nat}(hm:m<=6)(hi:i<2^m)(hk:k<m):(U (inp m k)).getLsbD i=i.testBit k:=by
 have h:=bS4
 unfold cJ3 at h
 have h1:=List.all_eq_true.1 h m (List.mem_range.2 (by omega))
 have h2:=List.all_eq_true.1 h1 i (List.mem_range.2 hi)
 rw[Bool.and_eq_true]at h2
 have h3:=List.all_eq_true.1 h2.2 k (List.mem_range.2 hk)
 exact eq_of_beq h3
theorem cDy{m i:Nat}(hm:m<=6)(hi:i<2^m):(U (bDc m)).getLsbD i=true:=by
 have h:=bS4
 unfold cJ3 at h
 have h1:=List.all_eq_true.1 h m (List.mem_range.2 (by omega))
 have h2:=List.all_eq_true.1 h1 i (List.mem_range.2 hi)
 rw[Bool.and_eq_true]at h2
 exact h2.1
theorem cKq{m:Nat}:∀n v,1<=v->v<=n->(inL m n).getD v 0=inp m (v-1)
 |0,v,h1,h2=>by omega
 |n+1,v,h1,h2=>by
  have hl:=bKd m n
  rw[inL,bJ5,hl]
  by_cases e:v<n+1
  .rw[if_pos e];exact cKq n v h1 (by omega)
  .rw[if_neg e,if_pos (by omega)]
   congr 1
   omega
theorem cC8{g:Nat}{A:LP}{val val':Nat->Bool}(h:AgF g A val)(h':AgF g A val')(ho:okG (g:Int) A=true)(hl:∀v,v<g->val v=val' v):∀n v,v<n->v<g+A.length->val v=val' v
 |0,v,h1,_=>by omega
 |n+1,v,h1,h2=>by
  by_cases e:v<g
  .exact hl v e
  .have hk:v-g<A.length:=by omega
   have hp:=List.getElem?_eq_getElem hk
   obtain⟨b1,b2,b3⟩:=okG_at A ho (v-g) _ hp
   have e1:=h.2 (v-g) _ hp
   have e2:=h'.2 (v-g) _ hp
   rw[show g+(v-g)=v by omega]at e1 e2
   rw[e1,e2,bTd (cC8 h h' ho hl n _ (by omega) (by omega)),bTd (cC8 h h' ho hl n _ (by omega) (by omega))]
theorem cL9{V:List Bool}{l:Int}:valL V l=lvF (fun v=>V.getD v false) l:=rfl
theorem cLs{f n:Nat}{A:LP}{V:List Bool}(h:bZb f n A V):AgF f A (fun v=>V.getD v false):=by
 refine⟨h.zero,fun k p hp=>?_⟩
 have hk:k<A.length:=(List.getElem?_eq_some_iff.1 hp).1
 have e:A.getD k (0,0)=p:=by rw[List.getD_eq_getElem?_getD,hp];rfl
 have:=h.gate k hk
 rw[e]at this
 exact this
section
variable {I:Int} {Ls As:List (Int×Int)} {Bs Cs:List Int}
theorem bYr(hI:0<=I):bCb I Ls=bC3 I Ls:=by unfold bCb bC3;omega
theorem cDj(hc:bCc I Ls As Bs Cs=0){m:Nat}(hm:I+(Ls.length:Int)=m)(h6:m<=6){V:List Bool}(hV:bZb (bCb I Ls) (size I Ls As).toNat As V):
  idxB (fun k=>V.getD (k+1) false) m<2^m/\∀v,v<(sigC I Ls As).length->bitF (sigC I Ls As) (idxB (fun k=>V.getD (k+1) false) m) v=V.getD v false:=by
 obtain⟨m',hm',s1,s2,s3,s4,s5,s6,s7,s8⟩:=bRb hc
 obtain rfl:m'=m:=by omega
 obtain⟨k1,_⟩:=bBh hc
 have hi:=cAo (x:=fun k=>V.getD (k+1) false) m'
 refine⟨hi,fun v hv=>?_⟩
 have hin:∀x∈inL m' m',inM (bDc m') x:=cD5 m' (Nat.le_refl _)
 have hz:(inL m' m').getD 0 0=0:=by
  have:∀n,(inL m' n).getD 0 0=0:=fun n=>by
   induction n with
   |zero=>rfl
   |succ n ih=>rw[inL,bJ5,bKd,if_pos (by omega)];exact ih
  exact this m'
 have hA:=sigs_Ag (a:=bDc m') (As:=As) (P:=inL m' m') (g:=m'+1) (bKd ..) (by omega) hz hin s4 (cDy h6 hi)
 rw[<-s3]at hA
 have hAV:=cLs hV
 rw[bYr k1,s2]at hAV
 have hpre:=(bPf (a:=bDc m') As (m'+1) (inL m' m') (bKd ..) hin s4)
 refine cC8 hA hAV s4 (fun u hu=>?_) (v+1) v (by omega) (by rw[s6]at hv;omega)
 unfold bitF
 have hlow:(sigC I Ls As).getD u 0=(inL m' m').getD u 0:=by
  rw[s3]
  exact sig_low hu hpre.1
 rw[hlow]
 by_cases e:u=0
 .subst e
  rw[hz,U0]
  exact hV.zero.symm
 .rw[cKq m' u (by omega) (by omega),inp_bit h6 hi (by omega),cD6 m' (u-1) (by omega)]
  rw[show u-1+1=u by omega]
theorem nvC_eq{b x y:Int}:nvC I Ls As Bs Cs b x y=bBg I Ls As Bs Cs x y b:=by
 unfold nvC nvOf bBg
 exact cF3 (by kernel_rfl)
theorem bWe(h:bGi I Ls As Bs Cs)(hc:bCc I Ls As Bs Cs=0){b:Int}(hb:0<=b/\b<=100000){v:Nat}{l:Int}(hv:(v:Int)<=size I Ls As)(hl:litN (size I Ls As) l):
  ∃r:Bool×Int,bQm (nvC I Ls As Bs Cs b) (v:Int) l=some r/\(r=(true,0)->∀V,bZb (bCb I Ls) (size I Ls As).toNat As V->V.getD v false=valL V l):=by
 have hl':=bCt.1 hl
 have hneg:negI l=neg l:=rfl
 have l1:litN (size I Ls As) (2*(v:Int)):=bCt.2 (by omega)
 have l2:litN (size I Ls As) (negI l):=bCt.2 (by unfold negI;split<;>omega)
 have l3:litN (size I Ls As) (2*(v:Int)+1):=bCt.2 (by omega)
 obtain⟨i1,e1,q1,p1⟩:=bWo h hc l1 l2 hb
 obtain⟨i2,e2,q2,p2⟩:=bWo h hc l3 hl hb
 unfold bQm
 rw[nvC_eq,q1]
 dsimp only
 by_cases c:e1=0/\i1=true
 .rw[if_pos c,nvC_eq,q2]
  refine⟨_,rfl,fun hr V hV=>?_⟩
  cases hr
  have f1:=p1 c.1 c.2 V hV
  have f2:=p2 rfl rfl V hV
  have x1:valL V (2*(v:Int))=V.getD v false:=bQ8 (fun v=>V.getD v false) v
  have x2:valL V (2*(v:Int)+1) = !V.getD v false:=cCg (fun v=>V.getD v false) v
  rw[hneg,cDd,x1]at f1
  rw[x2]at f2
  cases hA:V.getD v false<;>cases hB:valL V l<;>simp_all
 .rw[if_neg c]
  refine⟨_,rfl,fun hr=>?_⟩
  cases hr
  exact absurd ⟨rfl,rfl⟩ c
theorem bZs{all:Int}{gate:Nat}{nv:Int->Int->Option (Bool×Int)}{s:List Int}{N:Nat}(hnv:∀(v u:Nat) (l:Int),v<N->u<v->2*(u:Int)<=l->l<=2*(u:Int)+1->∃r,bQm nv (v:Int) l=some r):
  ∀n,n<=N->(∃st,runG all gate nv s n=some (.inr st))\/∃e,e≠0/\runG all gate nv s n=some (.inl e)
 |0,_=>.inl ⟨_,rfl⟩
 |n+1,hn=>by
  rcases bZs (all:=all) (gate:=gate) (s:=s) hnv n (by omega) with⟨st,h0⟩|⟨e,he,h0⟩
  .have ih:=bXx n st h0
   simp only[runG,h0]
   unfold stepG
   rw[ih.len]
   split
   .exact .inl ⟨_,rfl⟩
   .rename_i c hl
    obtain⟨u0,rfl,u1,u2,u3⟩:=ih.yes _ _ hl
    split
    .exact .inl ⟨_,rfl⟩
    .by_cases h7:gate<=7
     .rw[if_pos h7]
      exact .inl ⟨_,rfl⟩
     .rw[if_neg h7]
      have hb:=bQu (s:=s) (k:=u0) (x:=s.getD n 0)
      obtain⟨r,hr⟩:=hnv n u0 (litG s (u0:Int) (s.getD n 0)) (by omega) u1 hb.1 hb.2
      rw[hr]
      dsimp only
      by_cases e0:r.2=0
      .rw[if_pos e0];exact .inl ⟨_,rfl⟩
      .rw[if_neg e0];exact .inr ⟨_,e0,rfl⟩
  .exact .inr ⟨e,he,by simp only[runG,h0]⟩
theorem cKt(h:bGi I Ls As Bs Cs)(hc:bCc I Ls As Bs Cs=0){b:Int}(hb:0<=b/\b<=100000):∃(r:List Int) (e:Int),bC4 I Ls As Bs Cs b=some (r,e)/\(e=0->cBn I Ls As r/\(∀v,v<r.length->0<=r.getD v 0->bC3 I Ls<=v) /\
  ∀V,bZb (bCb I Ls) (size I Ls As).toNat As V->∀v,v<r.length->0<=r.getD v 0->V.getD v false=valL V (r.getD v 0)):=by
 obtain⟨m,hm,s1,s2,s3,s4,s5,s6,s7,s8⟩:=bRb hc
 obtain⟨k1,⟨k2,k3,k4,k5⟩,_⟩:=bBh hc
 have hsz:size I Ls As=I+Ls.length+As.length:=rfl
 have hnv:∀(v u:Nat) (l:Int),v<(sigC I Ls As).length->u<v->2*(u:Int)<=l->l<=2*(u:Int)+1->∃r,bQm (nvC I Ls As Bs Cs b) (v:Int) l=some r:=fun v u l h1 h2 h3 h4=>by
  obtain⟨r,hr,_⟩:=bWe h hc hb (v:=v) (l:=l) (by rw[s6]at h1;omega) (bCt.2 (by rw[s6]at h1;omega))
  exact⟨r,hr⟩
 rw[bM7 h hc hb hm]
 rcases bZs (all:=bDc m) (gate:=bC3 I Ls) (s:=sigC I Ls As) hnv _ (Nat.le_refl _) with⟨st,hst⟩|⟨e,he,hst⟩
 .have hi:=bXx _ _ hst
  refine⟨st.1,0,by rw[hst];rfl,fun _=>⟨⟨by rw[hi.len,s6];omega,fun v x hx=>?_⟩,fun v hv h0=>?_,fun V hV v hv h0=>?_⟩⟩
  .have hv:v<st.1.length:=(List.getElem?_eq_some_iff.1 hx).1
   have:=(hi.giv v (by rw[<-hi.len];exact hv)).bound
   rw[List.getD_eq_getElem?_getD,hx,Option.getD_some]at this
   exact⟨this.1,this.2.1,fun h0=>by have:=this.2.2 h0;omega⟩
  .rw[hi.len]at hv
   exact(hi.giv v hv).bound.2.2 h0
  .rw[hi.len]at hv
   rcases hi.giv v hv with⟨_,e⟩|⟨_,_,e⟩|⟨g1,u,g2,g3,g4,g5⟩
   .omega
   .omega
   .have hlb:=bQu (s:=sigC I Ls As) (k:=u) (x:=(sigC I Ls As).getD v 0)
    rcases g5 with⟨g6,e⟩|⟨g6,bb,g7,e⟩
    .obtain⟨hi1,hi2⟩:=cDj hc hm (by omega) hV
     obtain⟨o1,o2⟩:=mask_ok m
     have inS:∀k,k<(sigC I Ls As).length->inM (bDc m) ((sigC I Ls As).getD k 0):=fun k hk=>by
      rw[List.getD_eq_getElem?_getD,List.getElem?_eq_getElem hk,Option.getD_some]
      exact s8 _ (List.getElem_mem hk)
     have hw:=cKh (a:=bDc m) (s:=sigC I Ls As) (k:=u) (x:=(sigC I Ls As).getD v 0) (inS u (by omega)) (inS v hv) o1 o2 g3
     rw[e]
     have hbit:=bY0 (a:=bDc m) (s:=sigC I Ls As) (cDy (by omega) hi1) (litG (sigC I Ls As) (u:Int) ((sigC I Ls As).getD v 0))
     rw[hw]at hbit
     have hvv:=hi2 v hv
     unfold bitF at hvv
     rw[hvv]at hbit
     rw[hbit,cL9]
     refine bTd ?_
     have hu:(litG (sigC I Ls As) (u:Int) ((sigC I Ls As).getD v 0)/2).toNat=u:=by omega
     rw[hu]
     exact hi2 u (by omega)
    .cases bb with
     |false=>rw[if_neg (by simp)]at e;omega
     |true=>
      rw[if_pos rfl]at e
      obtain⟨r,hr,hs⟩:=bWe h hc hb (v:=v) (l:=litG (sigC I Ls As) (u:Int) ((sigC I Ls As).getD v 0)) (by rw[s6]at hv;omega) (bCt.2 (by rw[s6]at hv;omega))
      rw[hr]at g7
      have hr1:=Option.some.inj g7
      rw[e]
      exact hs hr1 V hV
 .refine⟨[],e,by rw[hst];rfl,fun h0=>absurd h0 he⟩
end
end
section
theorem cDn.loop{a:List Int}(hn:a.length<=100000):∀(n i:Nat),i+n=a.length->bAe.l0 a a (i:Int)=some true
 |0,i,hi=>by rw[bAe.l0_eq,cd,if_neg (by omega)]
 |n+1,i,hi=>by
  have hlt:i<a.length:=by omega
  have hw:IntKind.wrap .i64 ((i:Int)+1)=((i+1:Nat):Int):=by rw[wr]<;>omega
  rw[bAe.l0_eq,cd,if_pos (by omega),bCq hlt,Option.bind_some,Option.bind_some,cn,if_pos rfl,hw,cDn.loop hn n (i+1) (by omega)]
theorem bK5{a:List Int}(hn:a.length<=100000):bAe a a=some true:=by
 rw[bAe.eq,cn,if_pos rfl]
 exact cDn.loop hn a.length 0 (by omega)
section
variable {I:Int} {Ls As:List (Int×Int)} {Bs Cs:List Int}
end
end
section
def chA:LP:=[(4,2),(5,2),(9,7)]
theorem cFq:bGi 2 [] chA [10] []:=by
 refine⟨by unfold in64;omega,⟨by simp,by simp⟩,⟨by simp[chA],?_⟩,⟨by simp,?_⟩,⟨by simp,by simp⟩⟩
 .intro x hx
  simp only[chA,List.mem_cons,List.not_mem_nil,or_false]at hx
  rcases hx with rfl|rfl|rfl<;>exact⟨by unfold in64;omega,by unfold in64;omega⟩
 .intro x hx
  simp only[List.mem_cons,List.not_mem_nil,or_false]at hx
  subst hx
  unfold in64;omega
theorem cFr:bCc 2 [] chA [10] []=0:=by decide
theorem ch_run(nv:Int->Int->Option (Bool×Int)):endG (runG (bDc 2) (bC3 2 []) nv (sigC 2 [] chA) (sigC 2 [] chA).length)=some ([-1,-1,-1,-1,-1,3],0):=by kernel_rfl
theorem cNp{b:Int}(hb:0<=b/\b<=100000):bC4 2 [] chA [10] [] b=some ([-1,-1,-1,-1,-1,3],0):=by
 rw[bM7 cFq cFr hb (m:=2) (by simp)]
 exact ch_run _
theorem ch_ok:cBn 2 [] chA [-1,-1,-1,-1,-1,3]:=by
 refine⟨by decide,fun v x hx=>?_⟩
 have hv:v<6:=(List.getElem?_eq_some_iff.1 hx).1
 have:v=0\/v=1\/v=2\/v=3\/v=4\/v=5:=by omega
 rcases this with rfl|rfl|rfl|rfl|rfl|rfl<;>simp at hx<;>subst hx<;>omega
theorem cHv:bCh=some true:=by
 have e:bBj=some ((2:Int),([]:LP),chA,[10],[]):=bBj.eq
 have g0:=cNp (b:=0) (by omega)
 have p0:=bR3 cFq cFr (b:=0) (by omega) ch_ok g0
 have l1:(bAs 2 [] chA [-1,-1,-1,-1,-1,3]).length=2:=by kernel_rfl
 have l2:bL 2 [] chA [-1,-1,-1,-1,-1,3] [10]=[3]:=by kernel_rfl
 rw[l2]at p0
 rw[bCh.eq,e,Option.bind_some]
 dsimp only
 rw[g0,Option.bind_some,Option.bind_some]
 dsimp only
 rw[p0,Option.bind_some]
 dsimp only
 rw[ce,if_pos rfl,bK5 (by decide),Option.bind_some,ct,ce,if_pos rfl,ce,if_pos (by rw[l1];rfl),bK5 (by decide),Option.bind_some]
section
variable {I:Int} {Ls As:List (Int×Int)} {Bs Cs:List Int}
theorem cG1(h:bGi I Ls As Bs Cs):∃b,bCg I Ls As Bs Cs=some b/\(b=false->bCc I Ls As Bs Cs=0->Ls.length<=12/\As.length<=40/\I<=20):=by
 rw[bCg.eq,bVo h,Option.bind_some,cd]
 split
 .exact⟨true,rfl,fun h=>by cases h⟩
 .rw[bM9 h,Option.bind_some,ce]
  split
  .rename_i hc
   rw[cd]
   split
   .exact⟨true,rfl,fun h=>by cases h⟩
   .rw[cd]
    split
    .exact⟨true,rfl,fun h=>by cases h⟩
    .exact⟨_,rfl,fun h _=>by have:=of_decide_eq_false h;omega⟩
  .rename_i hc
   exact⟨false,rfl,fun _ h=>absurd h hc⟩
end
end
section
variable {I:Int} {Ls As:List (Int×Int)} {Bs Cs:List Int}
theorem cK4(b:Int):∃d,bCj b=some d/\(d=false->b<=1000\/100000<b):=by
 rw[bCj.eq,cd]
 split
 .exact⟨_,rfl,fun h=>by have:=of_decide_eq_false h;omega⟩
 .exact⟨_,rfl,fun _=>by omega⟩
theorem bRt(h:bGi I Ls As Bs Cs){st ins:List Bool}:∃a,bCe I Ls As Bs Cs st ins=some a/\(a=0->bCc I Ls As Bs Cs=0/\st.length=Ls.length/\(ins.length:Int)=I):=by
 rw[bCe.eq,bM9 h,Option.bind_some,cn]
 by_cases c:bCc I Ls As Bs Cs=0
 .rw[if_pos c,cn]
  by_cases c1:(st.length:Int)=(Ls.length:Int)
  .rw[if_pos c1,cn]
   by_cases c2:(ins.length:Int)=I
   .rw[if_pos c2];exact⟨_,rfl,fun _=>⟨c,by omega,c2⟩⟩
   .rw[if_neg c2];exact⟨_,rfl,fun h=>by omega⟩
  .rw[if_neg c1];exact⟨_,rfl,fun h=>by omega⟩
 .rw[if_neg c];exact⟨_,rfl,fun h=>absurd h c⟩
end
section
variable {I:Int} {Ls As:List (Int×Int)} {Bs Cs:List Int} {f n:Nat}
theorem values_lv(h:bGi I Ls As Bs Cs)(hc:bCc I Ls As Bs Cs=0){lv:List Bool}(hlv:(lv.length:Int)=I+Ls.length):∃V,bBr I Ls As Bs Cs (lv.drop I.toNat) (lv.take I.toNat)=some (V,0)/\bZb (bCb I Ls) (size I Ls As).toNat As V/\∀j,j<lv.length->V.getD (j+1) false=lv.getD j false:=by
 have hb:=bLn hc
 obtain⟨k1,k2,_⟩:=bBh hc
 obtain⟨k2,k3,_⟩:=k2
 obtain⟨ins,hins0⟩:∃ins,lv.take I.toNat=ins:=⟨_,rfl⟩
 obtain⟨st,hst0⟩:∃st,lv.drop I.toNat=st:=⟨_,rfl⟩
 have hlist:ins++st=lv:=by rw[<-hins0,<-hst0,List.take_append_drop]
 have hi:(ins.length:Int)=I:=by rw[<-hins0,List.length_take];omega
 have hs:st.length=Ls.length:=by rw[<-hst0,List.length_drop];omega
 rw[hins0,hst0]
 have hf:((bCb I Ls:Nat):Int)=1+I+Ls.length:=by unfold bCb;omega
 have hsz:bCb I Ls+As.length=(size I Ls As).toNat+1:=by unfold bCb size;omega
 have hs1:(size I Ls As).toNat<=1000:=by unfold size;omega
 have hs0:size I Ls As=(((size I Ls As).toNat:Nat):Int):=by unfold size;omega
 have hins:ins.length<=(size I Ls As).toNat:=by unfold size;omega
 have w1:IntKind.wrap .i64 (size I Ls As+1)=(((size I Ls As).toNat+1:Nat):Int):=by rw[wr]<;>omega
 have w2:IntKind.wrap .i64 (1+(ins.length:Int))=((1+ins.length:Nat):Int):=by rw[wr]<;>omega
 have w3:IntKind.wrap .i64 (((1+ins.length:Nat):Int)+(st.length:Int))=((bCb I Ls:Nat):Int):=by rw[wr]<;>omega
 rw[bBr.eq,bHu h,Option.bind_some,if_pos hc]
 dsimp only
 rw[cn,if_pos rfl,cn,if_pos (by omega),cn,if_pos hi,w1,bPp (by omega) (by omega),Option.bind_some,if_pos rfl,Int.toNat_natCast,List.length_replicate,
  show Int.toNat (1:Int)=1 from rfl,show Int.toNat ((((size I Ls As).toNat+1:Nat):Int)-1)=(size I Ls As).toNat by omega,List.take_of_length_le hins,w2,w3,
  show Int.toNat (((1+ins.length:Nat):Int))=1+ins.length from rfl,show Int.toNat (((bCb I Ls:Nat):Int)-((1+ins.length:Nat):Int))=st.length by omega,
  cFj hins,show(List.replicate ((size I Ls As).toNat+1) false).take 1=[false] from rfl]
 generalize hV1:[false]++ins++(List.replicate ((size I Ls As).toNat+1) false).drop (1+ins.length)=V1
 have hl1:V1.length=(size I Ls As).toNat+1:=by rw[<-hV1];simp;omega
 have ht1:V1.take (1+ins.length)=[false]++ins:=by rw[<-hV1];exact List.take_left' (by simp;omega)
 rw[cFj (Nat.le_refl _),ht1]
 generalize hV2:[false]++ins++st++V1.drop (1+ins.length+st.length)=V2
 have hl2:V2.length=(size I Ls As).toNat+1:=by rw[<-hV2];simp;omega
 have hV2':V2=false::(lv++V1.drop (1+ins.length+st.length)):=by rw[<-hV2,<-hlist];simp
 have c1:(decide ((0:Int)<=1)&&decide ((1:Int)<=(((size I Ls As).toNat+1:Nat):Int))&&decide ((((size I Ls As).toNat+1:Nat):Int)<=(((size I Ls As).toNat+1:Nat):Int)))=true:=by
  rw[Bool.and_eq_true,Bool.and_eq_true,decide_eq_true_eq,decide_eq_true_eq,decide_eq_true_eq];omega
 have c2:(decide ((0:Int)<=((1+ins.length:Nat):Int))&&decide (((1+ins.length:Nat):Int)<=((bCb I Ls:Nat):Int))&&decide (((bCb I Ls:Nat):Int)<=(V1.length:Int)))=true:=by
  rw[Bool.and_eq_true,Bool.and_eq_true,decide_eq_true_eq,decide_eq_true_eq,decide_eq_true_eq];omega
 rw[c1,show chk true=some () from rfl,Option.bind_some,c2,show chk true=some () from rfl,Option.bind_some,if_pos rfl]
 have g:=bBr.loop (I:=I) (Ls:=Ls) (Bs:=Bs) (Cs:=Cs) hb (by omega) As.length 0 V2 (by omega) (by omega)
 obtain⟨r1,r2,r3⟩:=bWz hb As.length 0 V2 (by omega) (by omega)
 rw[List.drop_zero]at g r1 r2 r3
 refine⟨_,g,⟨by rw[r1];exact hl2,by rw[r2 0 (by omega),hV2'];rfl,fun k hk=>r3 k (by omega) hk⟩,fun j hj=>?_⟩
 rw[r2 (j+1) (by omega),hV2',List.getD_cons_succ,List.getD_eq_getElem?_getD,List.getElem?_append_left hj,List.getD_eq_getElem?_getD]
end
section
variable {V:List Bool} {s:Int} {b:Int} {L A:List (Int×Int)} {P Q:List Int}
theorem vals.loop1(hV:(V.length:Int)=s+1)(hs:s<=1000)(hn:P.length<=100000)(hl:∀x∈P,litN s x):∀(n i:Nat) (o:List Bool),i+n=P.length->o=(P.take i).map (valL V) ->
  bDk.l0 (b,(L,(A,(P,Q)))) (P.length:Int) (i:Int) V o=some (P.map (valL V),0)
 |0,i,o,hi,ho=>by
  rw[bDk.l0_eq,cd,if_neg (by omega),ho,List.take_of_length_le (by omega)]
 |n+1,i,o,hi,ho=>by
  have hlt:i<P.length:=by omega
  have hw:IntKind.wrap .i64 ((i:Int)+1)=((i+1:Nat):Int):=by rw[wr]<;>omega
  have hx:=bCt.1 (hl _ (List.getElem_mem hlt))
  rw[bDk.l0_eq,cd,if_pos (by omega),bMq.eq]
  dsimp only
  rw[bCq hlt,Option.bind_some,Option.bind_some,bKz hx.1 (by omega) (by omega),Option.bind_some,bCi (by rw[ho,List.length_map,List.length_take];simp;omega),Option.bind_some,hw]
  refine vals.loop1 hV hs hn hl n (i+1) _ (by omega) ?_
  rw[ho,List.take_succ_eq_append_getElem hlt,List.map_append];rfl
theorem vals.loop2(hV:(V.length:Int)=s+1)(hs:s<=1000)(hn:Q.length<=100000)(hl:∀x∈Q,litN s x):∀(n i:Nat) (o:List Bool),i+n=Q.length->o=(Q.take i).map (valL V) ->
  bDj.l0 (b,(L,(A,(P,Q)))) (Q.length:Int) (i:Int) V o=some (Q.map (valL V),0)
 |0,i,o,hi,ho=>by
  rw[bDj.l0_eq,cd,if_neg (by omega),ho,List.take_of_length_le (by omega)]
 |n+1,i,o,hi,ho=>by
  have hlt:i<Q.length:=by omega
  have hw:IntKind.wrap .i64 ((i:Int)+1)=((i+1:Nat):Int):=by rw[wr]<;>omega
  have hx:=bCt.1 (hl _ (List.getElem_mem hlt))
  rw[bDj.l0_eq,cd,if_pos (by omega),bMp.eq]
  dsimp only
  rw[bCq hlt,Option.bind_some,Option.bind_some,bKz hx.1 (by omega) (by omega),Option.bind_some,bCi (by rw[ho,List.length_map,List.length_take];simp;omega),Option.bind_some,hw]
  refine vals.loop2 hV hs hn hl n (i+1) _ (by omega) ?_
  rw[ho,List.take_succ_eq_append_getElem hlt,List.map_append];rfl
theorem vals.loop3(hV:(V.length:Int)=s+1)(hs:s<=1000)(hn:L.length<=100000)(hl:∀x∈L,litN s x.1):∀(n i:Nat) (o:List Bool),i+n=L.length->o=(L.take i).map (fun x=>valL V x.1) ->
  bDi.l0 (b,(L,(A,(P,Q)))) (L.length:Int) (i:Int) V o=some (L.map (fun x=>valL V x.1),0)
 |0,i,o,hi,ho=>by
  rw[bDi.l0_eq,cd,if_neg (by omega),ho,List.take_of_length_le (by omega)]
 |n+1,i,o,hi,ho=>by
  have hlt:i<L.length:=by omega
  have hw:IntKind.wrap .i64 ((i:Int)+1)=((i+1:Nat):Int):=by rw[wr]<;>omega
  have hx:=bCt.1 (hl _ (List.getElem_mem hlt))
  rw[bDi.l0_eq,cd,if_pos (by omega),bNj.eq]
  dsimp only
  rw[bCq hlt,Option.bind_some,Option.bind_some,bKz hx.1 (by omega) (by omega),Option.bind_some,bCi (by rw[ho,List.length_map,List.length_take];simp;omega),Option.bind_some,hw]
  refine vals.loop3 hV hs hn hl n (i+1) _ (by omega) ?_
  rw[ho,List.take_succ_eq_append_getElem hlt,List.map_append];rfl
end
theorem cL2{l:List Bool}{v:Bool}(hn:l.length<=100000):∀(n i:Nat),i+n=l.length->∃k,bB7.l0 l v (l.length:Int) (i:Int)=some k
 |0,i,hi=>by rw[bB7.l0_eq,cd,if_neg (by omega)];exact⟨_,rfl⟩
 |n+1,i,hi=>by
  have hlt:i<l.length:=by omega
  have hw:IntKind.wrap .i64 ((i:Int)+1)=((i+1:Nat):Int):=by rw[wr]<;>omega
  rw[bB7.l0_eq,cd,if_pos (by omega),bCq hlt,Option.bind_some,hw]
  cases (v==l[i]) with
  |true=>exact⟨_,rfl⟩
  |false=>exact cL2 hn n (i+1) (by omega)
theorem cNk{l:List Bool}{v:Bool}(hn:l.length<=100000):∃k,bDm l v=some k:=by
 obtain⟨k,hk⟩:=cL2 (v:=v) hn l.length 0 (by omega)
 rw[bDm.eq,bB7.eq,show(0:Int)=((0:Nat):Int) from rfl,hk]
 exact⟨_,rfl⟩
theorem same04.loop{a:List Bool}(hn:a.length<=100000):∀(n i:Nat),i+n=a.length->bBy.l0 a a (i:Int)=some true
 |0,i,hi=>by rw[bBy.l0_eq,cd,if_neg (by omega)]
 |n+1,i,hi=>by
  have hlt:i<a.length:=by omega
  have hw:IntKind.wrap .i64 ((i:Int)+1)=((i+1:Nat):Int):=by rw[wr]<;>omega
  rw[bBy.l0_eq,cd,if_pos (by omega),bCq hlt,Option.bind_some,Option.bind_some,beq_self_eq_true,hw]
  exact same04.loop hn n (i+1) (by omega)
theorem same04{a:List Bool}(hn:a.length<=100000):bBy a a=some true:=by
 rw[bBy.eq,cn,if_pos rfl]
 exact same04.loop hn a.length 0 (by omega)
section
variable {I:Int} {Ls As:List (Int×Int)} {Bs Cs:List Int}
theorem props_eq(h:bGi I Ls As Bs Cs)(hc:bCc I Ls As Bs Cs=0){st ins V:List Bool}(hV:bBr I Ls As Bs Cs st ins=some (V,0))(hA:bZb (bCb I Ls) (size I Ls As).toNat As V):
  bN3 I Ls As Bs Cs st ins=(bDm (Cs.map (valL V)) false).bind (fun r=>some (!r,Bs.map (valL V),(0:Int)))/\bQd I Ls As Bs Cs st ins=some (Ls.map (fun x=>valL V x.1),(0:Int)):=by
 obtain⟨k1,⟨k2,k3,k4,k5⟩,c1,c2,c3,_⟩:=bBh hc
 have hs:(V.length:Int)=size I Ls As+1:=by have:=hA.len;unfold size at *;omega
 have hs1:size I Ls As<=1000:=by unfold size;omega
 have e1:bDk I Ls As Bs Cs st ins (List.length Bs:Int) (I,(Ls,(As,(Bs,Cs))))=some (Bs.map (valL V),0):=by
  rw[bDk.eq,hV,Option.bind_some]
  dsimp only
  rw[cn,if_pos rfl]
  exact vals.loop1 hs hs1 (by omega) c1 Bs.length 0 [] (by omega) (by simp)
 have e2:bDj I Ls As Bs Cs st ins (List.length Cs:Int) (I,(Ls,(As,(Bs,Cs))))=some (Cs.map (valL V),0):=by
  rw[bDj.eq,hV,Option.bind_some]
  dsimp only
  rw[cn,if_pos rfl]
  exact vals.loop2 hs hs1 (by omega) c2 Cs.length 0 [] (by omega) (by simp)
 have e3:bDi I Ls As Bs Cs st ins (List.length Ls:Int) (I,(Ls,(As,(Bs,Cs))))=some (Ls.map (fun x=>valL V x.1),0):=by
  rw[bDi.eq,hV,Option.bind_some]
  dsimp only
  rw[cn,if_pos rfl]
  exact vals.loop3 hs hs1 (by omega) (fun x hx=>(c3 x hx).1) Ls.length 0 [] (by omega) (by simp)
 constructor
 .rw[bN3.eq,e1,Option.bind_some]
  dsimp only
  rw[cn,if_pos rfl,e2,Option.bind_some]
 .rw[bQd.eq,e3,Option.bind_some]
theorem built_values(h:bGi I Ls As Bs Cs)(hc:bCc I Ls As Bs Cs=0){g:List Int}(hg:cBn I Ls As g){V V':List Bool}(hA:bZb (bCb I Ls) (size I Ls As).toNat As V)(hgv:∀v,v<g.length->0<=g.getD v 0->V.getD v false=valL V (g.getD v 0))
  (hA':bZb (bCb I (bLs I Ls As g)) (size I (bLs I Ls As g) (bAs I Ls As g)).toNat (bAs I Ls As g) V') (hlow:∀u,u<bC3 I Ls->V'.getD u false=V.getD u false) {x:Int} (hx:litN (size I Ls As) x):valL V' (atT (bT I Ls As g) x)=valL V x:=by
 obtain⟨k1,_⟩:=bBh hc
 obtain⟨_,hK⟩:=bRp h hc hg
 have hF:=cLs hA
 have hF':=cLs hA'
 have hgl:bC3 I (bLs I Ls As g)=bC3 I Ls:=by unfold bC3;rw[List.length_map]
 rw[bYr k1]at hF hF'
 rw[hgl]at hF'
 have hx':=bCt.1 hx
 have hgl2:=hg.1
 exact build_at hK hF (fun v hv h0=>hgv v hv h0) hlow hF' hx'.1 (by omega)
theorem cLz(h:bGi I Ls As Bs Cs)(hc:bCc I Ls As Bs Cs=0){b:Int}(hb:b<0\/100000<b):∃r,bFz I Ls As Bs Cs b=some (r,2):=by
 rw[bFz.eq,bG2 h,Option.bind_some,hc,cn,if_pos rfl,cd]
 by_cases h0:b<0
 .rw[if_pos h0];exact⟨_,rfl⟩
 .rw[if_neg h0,cd,if_pos (by omega)];exact⟨_,rfl⟩
theorem cJb(h:bGi I Ls As Bs Cs)(hc:bCc I Ls As Bs Cs=0){b:Int}(hb:0<=b/\b<=100000){r:List Int}{e:Int}(he:e≠0)(hG:bC4 I Ls As Bs Cs b=some (r,e)):
  bFz I Ls As Bs Cs b=some (((I,Ls,As,Bs,Cs),(bJ4 I Ls).1),0):=by
 have n1:=h.ls.1;have n2:=h.as_.1;have n3:=h.bs.1;have n4:=h.cs.1
 obtain⟨_,⟨_,f1,f2,f3⟩,_⟩:=bBh hc
 rw[bFz.eq,bG2 h,Option.bind_some,hc,cn,if_pos rfl,cd,if_neg (by omega),cd,if_neg (by omega),hG,Option.bind_some]
 dsimp only
 rw[ce,if_neg he,bLp h hc,Option.bind_some,bCi (by simp only[List.length_nil];omega),Option.bind_some,bCi (by simp only[List.length_nil];omega),Option.bind_some,bCi (by simp only[List.length_nil];omega),Option.bind_some,bCi (by simp only[List.length_nil];omega),Option.bind_some]
 rfl
theorem cMk(h1:I<=1000)(h2:Ls.length<=1000):bBq (bJ4 I Ls).1.1 (bJ4 I Ls).1.2.1 (bJ4 I Ls).1.2.2.1 (bJ4 I Ls).1.2.2.2.1 (bJ4 I Ls).1.2.2.2.2.1 (bJ4 I Ls).1.2.2.2.2.2.1 (bJ4 I Ls).1.2.2.2.2.2.2
  (bJ4 I Ls).1.1 (bJ4 I Ls).1.2.1 (bJ4 I Ls).1.2.2.1 (bJ4 I Ls).1.2.2.2.1 (bJ4 I Ls).1.2.2.2.2.1 (bJ4 I Ls).1.2.2.2.2.2.1 (bJ4 I Ls).1.2.2.2.2.2.2=some true:=by
 unfold bJ4
 dsimp only
 have a1:=bVk I Ls.length
 have a2:=cHw I.toNat
 generalize firL I Ls.length=F at *
 generalize insL I.toNat=S at *
 rw[bBq.eq,cn,if_pos rfl,cn,if_pos rfl,bK5 (by omega),Option.bind_some,show(!true)=false from rfl,cf,Option.bind_some,show(!true)=false from rfl,cf,cn,if_pos rfl,bCa.eq,cn,if_pos rfl,cn,if_pos rfl,
  bCa.l0_eq,cd,if_neg (by simp),Option.bind_some,show(!true)=false from rfl,cf,bBq.l0_eq,cd,if_pos (by simp),show geti [S] 0=some S from rfl,Option.bind_some,Option.bind_some,bK5 (by omega),Option.bind_some,show(!true)=false from rfl,cf,
  show IntKind.wrap .i64 ((0:Int)+1)=1 by decide,bBq.l0_eq,cd,if_neg (by simp)]
theorem SweepValues_pure(c:Int×List (Int×Int)×List (Int×Int)×List Int×List Int)(b:Int)(st ins:List Bool)(hc:okD TC c)(hk:okD (.int .i64) b)(h1:okD (.list .bool) st)(h2:okD (.list .bool) ins):bDr c.1 c.2.1 c.2.2.1 c.2.2.2.1 c.2.2.2.2 b st ins=some true:=by
 have h:=okTC hc
 obtain⟨I,Ls,As,Bs,Cs⟩:=c
 dsimp only at h ⊢
 obtain⟨g,hg,_⟩:=cG1 h
 obtain⟨d,hd,hd2⟩:=cK4 b
 obtain⟨a,ha,ha2⟩:=bRt h (st:=st) (ins:=ins)
 rw[bDr.eq,cHv,Option.bind_some,hg,Option.bind_some]
 cases g with
 |true=>rfl
 |false=>
 rw[cf,hd,Option.bind_some]
 cases d with
 |true=>rfl
 |false=>
 rw[cf,ha,Option.bind_some,cn]
 by_cases ha0:a=0
 .obtain⟨hck,hs,hi⟩:=ha2 ha0
  rw[if_pos ha0,show(!true)=false from rfl,cf]
  by_cases hb:0<=b/\b<=100000
  .obtain⟨k1,⟨k2,k3,k4,k5⟩,c1,c2,c3,_⟩:=bBh hck
   have hlv:(((ins++st).length:Nat):Int)=I+Ls.length:=by rw[List.length_append];omega
   have hdr:(ins++st).drop I.toNat=st:=List.drop_left' (by omega)
   have htk:(ins++st).take I.toNat=ins:=List.take_left' (by omega)
   obtain⟨V,hV,hA,hL⟩:=values_lv h hck hlv
   rw[hdr,htk]at hV
   obtain⟨p1,p2⟩:=props_eq h hck hV hA
   obtain⟨q,hq⟩:=cNk (l:=Cs.map (valL V)) (v:=false) (by rw[List.length_map];omega)
   obtain⟨r,e,g1,g2⟩:=cKt h hck hb
   -- the circuit that is left,of the same values
   obtain⟨Ls',As',Bs',Cs',V',z1,z2,z3,z4,z5,z6,z7,z8,z9⟩:∃(Ls' As':List (Int×Int)) (Bs' Cs':List Int) (V':List Bool),bGi I Ls' As' Bs' Cs'/\bCc I Ls' As' Bs' Cs'=0/\As'.length<=As.length/\bBr I Ls' As' Bs' Cs' st ins=some (V',0)/\bZb (bCb I Ls') (size I Ls' As').toNat As' V' /\
     Bs'.map (valL V')=Bs.map (valL V)/\Cs'.map (valL V')=Cs.map (valL V)/\Ls'.map (fun x=>valL V' x.1)=Ls.map (fun x=>valL V x.1)/\bFz I Ls As Bs Cs b=some (((I,Ls',As',Bs',Cs'),(bJ4 I Ls').1),0):=by
    by_cases he:e=0
    .obtain⟨hgo,_,hgv⟩:=g2 he
     subst he
     obtain⟨z1,z2,z3⟩:=cHx h hck hgo
     have hlen:(bLs I Ls As r).length=Ls.length:=List.length_map ..
     obtain⟨V',hV',hA',hL'⟩:=values_lv z1 z2 (lv:=ins++st) (by rw[hlen];exact hlv)
     rw[hdr,htk]at hV'
     have hlow:∀u,u<bC3 I Ls->V'.getD u false=V.getD u false:=fun u hu=>by
      by_cases e0:u=0
      .subst e0;rw[hA.zero,hA'.zero]
      .have hu2:u-1<(ins++st).length:=by unfold bC3 at hu;omega
       have t1:=hL (u-1) hu2
       have t2:=hL' (u-1) hu2
       rw[show u-1+1=u by omega]at t1 t2
       rw[t1,t2]
     have hat:=fun(x:Int) (hx:litN (size I Ls As) x)=>built_values h hck hgo hA (hgv V hA) hA' hlow hx
     refine⟨_,_,_,_,V',z1,z2,z3,hV',hA',?_,?_,?_,bR3 h hck hb hgo g1⟩
     .rw[List.map_map];exact List.map_congr_left fun x hx=>hat x (c1 x hx)
     .rw[List.map_map];exact List.map_congr_left fun x hx=>hat x (c2 x hx)
     .rw[List.map_map];exact List.map_congr_left fun x hx=>hat x.1 (c3 x hx).1
    .exact⟨_,_,_,_,V,h,hck,Nat.le_refl _,hV,hA,rfl,rfl,rfl,cJb h hck hb he g1⟩
   obtain⟨p1',p2'⟩:=props_eq z1 z2 z4 z5
   obtain⟨_,⟨_,f1,f2,f3⟩,_⟩:=bBh z2
   rw[z6,z7]at p1'
   rw[z8]at p2'
   rw[z9,Option.bind_some]
   dsimp only
   rw[cn,if_pos rfl,p1,hq,Option.bind_some,Option.bind_some,p1',hq,Option.bind_some,Option.bind_some,p2,Option.bind_some,p2',Option.bind_some,bLp z1 z2,Option.bind_some,ct]
   dsimp only
   rw[ce,if_pos rfl,ce,if_pos rfl,ce,if_pos rfl,ce,if_pos rfl,beq_self_eq_true,ct,same04 (by rw[List.length_map];omega),Option.bind_some,ct,same04 (by rw[List.length_map];omega),Option.bind_some,ct,cd,if_pos (by omega),ce,if_pos (show(bJ4 I Ls').2=0 from rfl),cMk (by omega) (by omega),Option.bind_some]
  .obtain⟨r,hr⟩:=cLz h hck (b:=b) (by omega)
   rw[hr,Option.bind_some]
   dsimp only
   rw[cn,if_neg (by omega),ct,ce,if_pos rfl,cd]
   by_cases h0:b<0
   .rw[if_pos h0]
   .rw[if_neg h0,decide_eq_true (by omega)]
 .rw[if_neg ha0]
end
end Go.Proofs.YtjkoadoekaplpaaGreat

