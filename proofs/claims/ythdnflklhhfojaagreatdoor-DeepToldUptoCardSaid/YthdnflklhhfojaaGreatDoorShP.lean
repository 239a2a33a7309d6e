/- What is laid of the shelf for the order of values: all in ShM. -/
import Derived.Test.YthdnflklhhfojaaGreatDoorShM
